/- WireSums returns true for every text and every integer, on every machine state in which its arguments can be read; no condition. -/
import Derived.Test.YtbekllgecfjljaaFrame
import Derived.Test.YtbekllgecfjljaaWireSumsWalk
namespace Go.Proofs.Ytbekllgecfjljaa
open Go.ChangeShapes Go.WideShapes Go.ChangeAt Go.RowKit Go.ChangeMaps
theorem string_small {H : Type} {s : ByteArray} {ds : List (DataW H)} {ts : List TypeId} {d : DataW H} (hsz : (DataW.weightsEach Try.prog (9 :: ts) (d :: ds)).all (· ≤ reachBytes) = true) (hd : d = .lit (.string s.data.toList)) : s.size ≤ 140737488355328 := by
  subst hd
  have := sized_string hsz (j := 0) (t := 9) rfl rfl
  simp only [reachBytes, Array.length_toList] at this
  have e : s.data.size = s.size := rfl
  omega
set_option maxRecDepth 100000 in
theorem wireSums_lifted (os : Os) (started : os.Started) (H : Type) (enc : TypeId × Value → H) :
    ReturnsInHanded {} Try.checked os 3 .any (Rows.wireSumsSpec.pre6 enc Try.prog Try.f3 Rows.wireSumsRow.domain false) (Rows.wireSumsSpec.post enc Try.prog Try.f3 false true false false) := by
  refine law_of_walk started (by kernel_rfl) Try.func3
    (ChangeSpec.witness6 (enc := enc) (C := Try.checked) false ⟨#[], #[.string ByteArray.empty, .int .i64 0], []⟩ 8 (by kernel_rfl) (by kernel_rfl) (by kernel_rfl) (by kernel_rfl)) rfl
    (fun ds h => by match ds, h with | [_, _], _ => rfl) (by kernel_rfl) rfl ?_
  intro W base args ds p hR
  obtain ⟨hval, hA, hlt, hsz⟩ := hR
  rw [Try.params3] at hA hval hsz
  obtain ⟨v0, vs0, d0, ds0, p0, q0, hargs, rfl, rfl, h0, r0⟩ := trodAll_cons hA
  obtain ⟨v1, vs1, d1, ds1, p1, q1, rfl, rfl, rfl, h1, r1⟩ := trodAll_cons r0
  obtain ⟨rfl, rfl, rfl⟩ := trodAll_nil r1
  obtain rfl : args = #[v0, v1] := by cases args; simp_all
  obtain ⟨a0, rfl, rfl, rfl, wf0⟩ := open_string Try.underlying9 (hval 0 9 v0 rfl rfl) h0
  obtain ⟨a1, rfl, rfl, rfl, wf1⟩ := open_int Try.underlying3 (hval 1 3 v1 rfl rfl) h1
  exact WireSums_walk a0 a1 (string_small hsz rfl) W
/-- The statement. -/
theorem wireSums_proved : Rows.WireSumsSaid :=
  OpenClaim.holds_of_wide 3 Try.f3 rfl rfl rfl rfl rfl rfl rfl ⟨rfl, rfl, rfl, rfl, rfl⟩ rfl rfl rfl rfl rfl (by kernel_rfl) Try.func3 (by kernel_rfl)
    (of_decide_eq_true (by kernel_rfl)) (by unfold Func.isWrapper; first | (rw [if_pos (by decide +kernel)]; kernel_rfl) | (rw [if_neg (by decide +kernel)]; exact ⟨rfl, rfl⟩))
    (fun os started H enc _ => wireSums_lifted os started H enc)
#print axioms wireSums_proved
end Go.Proofs.Ytbekllgecfjljaa
