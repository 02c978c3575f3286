/- WireOne returns true for every text, on every machine state in which its arguments can be read; no condition. -/
import Derived.Test.YthnkmjjldggecaaMFrame
import Derived.Test.YthnkmjjldggecaaMUnp
namespace Go.Proofs.Ythnkmjjldggecaa
open Go.ChangeShapes Go.WideShapes Go.ChangeAt Go.RowKit Go.ChangeMaps
set_option maxRecDepth 100000 in
theorem string_small {H : Type} {s : ByteArray} {ds : List (DataW H)} {ts : List TypeId} {d : DataW H} (hsz : (DataW.weightsEach Try.prog (9 :: ts) (d :: ds)).all (· ≤ reachBytes) = true) (hd : d = .lit (.string s.data.toList)) : s.size ≤ 140737488355328 := by
  subst hd
  have := sized_string hsz (j := 0) (t := 9) rfl rfl
  simp only [reachBytes, Array.length_toList] at this
  have e : s.data.size = s.size := rfl
  omega
set_option maxRecDepth 100000 in
theorem wireOne_lifted (os : Os) (started : os.Started) (H : Type) (enc : TypeId × Value → H) :
    ReturnsInHanded {} Try.checked os 5 .any (Rows.wireOneSpec.pre6 enc Try.prog Try.f5 Rows.wireOneRow.domain false) (Rows.wireOneSpec.post enc Try.prog Try.f5 false true false false) := by
  refine law_of_walk started (by kernel_rfl) Try.func5
    (ChangeSpec.witness6 (enc := enc) (C := Try.checked) false ⟨#[], #[.string ByteArray.empty], []⟩ 8 (by kernel_rfl) (by kernel_rfl) (by kernel_rfl) (by kernel_rfl)) rfl
    (fun ds h => by match ds, h with | [_], _ => rfl) (by kernel_rfl) rfl ?_
  intro W base args ds p hR
  obtain ⟨hval, hA, hlt, hsz⟩ := hR
  rw [Try.params5] at hA hval hsz
  obtain ⟨v0, vs0, d0, ds0, p0, q0, hargs, rfl, rfl, h0, r0⟩ := trodAll_cons hA
  obtain ⟨rfl, rfl, rfl⟩ := trodAll_nil r0
  obtain rfl : args = #[v0] := by cases args; simp_all
  obtain ⟨a0, rfl, rfl, rfl, wf0⟩ := open_string Try.underlying9 (hval 0 9 v0 rfl rfl) h0
  exact WireOne_walk a0 (string_small hsz rfl) W
set_option maxRecDepth 100000 in
theorem wireOne_place : (Rows.wireOneRow.inPlace == Try.pinned.checked.prog.inPlace 5) = true := by kernel_rfl
set_option maxRecDepth 100000 in
theorem wireOne_unfollowed : (Rows.wireOneRow.unfollowed == Try.pinned.checked.prog.unfollowed 5) = true := by kernel_rfl
set_option maxRecDepth 100000 in
theorem wireOne_recurses : (Rows.wireOneRow.recurses == Try.pinned.checked.prog.recurses 5) = true := by kernel_rfl
set_option maxRecDepth 100000 in
theorem wireOne_named : (Rows.wireOneRow.named == Try.pinned.checked.prog.varsNamed 5) = true := by kernel_rfl
set_option maxRecDepth 100000 in
theorem wireOne_joined : joinedFacts Try.pinned.checked.prog 5 Try.f5 Rows.wireOneSpec Rows.wireOneRow = true :=
  joined_of (by kernel_rfl) shut_laid shut_rowed (by kernel_rfl) (by kernel_rfl) (by kernel_rfl) shut_stops (by kernel_rfl) shut_knobs wireOne_place wireOne_unfollowed wireOne_recurses wireOne_named (by kernel_rfl) (by kernel_rfl) (by kernel_rfl) (by kernel_rfl) (by kernel_rfl) (by kernel_rfl) (by kernel_rfl) (by kernel_rfl) (by kernel_rfl) shut_keys (by kernel_rfl) shut_heard shut_enter shut_lifts shut_make (by kernel_rfl) (by kernel_rfl) (by kernel_rfl) (by kernel_rfl)
set_option maxRecDepth 100000 in
/-- The statement. -/
theorem wireOne_proved : Rows.WireOneSaid :=
  OpenClaim.holds_of_wide 5 Try.f5 rfl rfl rfl rfl rfl rfl rfl ⟨rfl, rfl, rfl, rfl, rfl⟩ rfl rfl rfl rfl rfl (by kernel_rfl) Try.func5 wireOne_joined
    (of_decide_eq_true (by kernel_rfl)) (by unfold Func.isWrapper; first | (rw [if_pos (by decide +kernel)]; kernel_rfl) | (rw [if_neg (by decide +kernel)]; exact ⟨rfl, rfl⟩))
    (fun os started H enc _ => wireOne_lifted os started H enc)
#print axioms wireOne_proved
end Go.Proofs.Ythnkmjjldggecaa
