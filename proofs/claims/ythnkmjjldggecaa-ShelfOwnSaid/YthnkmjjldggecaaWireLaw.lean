/- What was unpacked is packed as it was. No walk here. -/
import Derived.Test.YthnkmjjldggecaaMWireU
import Derived.Test.YthnkmjjldggecaaWirePack
namespace Go.Proofs.Ythnkmjjldggecaa
open Go.RowKit
theorem last3 {u : ByteArray} (h : u.size = 3) : u.data.toList = b3 (headN u) := by
  have h1 : numB u false (headN u) = false := by
    unfold numB; rw [if_neg (by omega), if_neg (by omega)]
  obtain ⟨h2, -⟩ := num_fore h1
  have h3 : numV u (headN u) = headN u := by unfold numV; rw [if_neg (by omega), if_neg (by omega)]
  rw [h3] at h2
  have h4 := congrArg List.length h2
  rw [List.length_append, ← size_list] at h4
  have h5 : (b3 (headN u)).length = 3 := rfl
  have h6 : (numR u).data.toList = [] := List.eq_nil_of_length_eq_zero (by omega)
  rw [h6, List.append_nil] at h2
  exact h2
theorem split3 {s : ByteArray} (h : ¬ s.size < 3) : s.data.toList = (upT s).data.toList ++ b3 (upSum s) := by
  have h1 : (s.extract (s.size - 3) s.size).size = 3 := by rw [ByteArray.size_extract]; omega
  unfold upT upSum
  rw [← last3 h1, extract_take, extract_list, List.take_append_drop]
theorem upE_zero {s : ByteArray} (h : upE s = 0) : ¬ 20000 < s.size ∧ ¬ s.size < 3 ∧ sumOf (upT s) = upSum s ∧ upBad (upT s) = false := by
  unfold upE at h
  split at h
  · exact absurd h (by decide)
  rename_i h1
  split at h
  · exact absurd h (by decide)
  rename_i h2
  split at h
  · exact absurd h (by decide)
  rename_i h3
  split at h
  · exact absurd h (by decide)
  rename_i h4
  exact ⟨h1, h2, by simpa using h3, by simpa using h4⟩
theorem upBad_false {t : ByteArray} (h : upBad t = false) : (partsRd t).2.2 = false ∧ (partsRd t).2.1 = ⟨#[]⟩ ∧ batchChk (btRd t) = 0 := by
  unfold upBad at h
  simp only [Bool.or_eq_false_iff, decide_eq_false_iff_not, Decidable.not_not] at h
  exact h
theorem bytes_list (s : ByteArray) : (⟨s.data.toList.toArray⟩ : ByteArray) = s := by
  obtain ⟨⟨l⟩⟩ := s; rfl
theorem up_ok {s : ByteArray} (h : upE s = 0) : batchChk (upB s) = 0 ∧ packE (upB s) = 0 ∧ packS (upB s) = s := by
  obtain ⟨h1, h2, h3, h4⟩ := upE_zero h
  obtain ⟨h5, h6, h7⟩ := upBad_false h4
  have e : upB s = btRd (upT s) := by unfold upB; rw [if_pos h]
  rw [e]
  have h8 := bt_fore h5
  rw [h6] at h8
  have h9 : (upT s).data.toList = bodyW (btRd (upT s)) := by rw [h8]; exact List.append_nil _
  have h10 : fullW (btRd (upT s)) = s.data.toList := by
    unfold fullW
    rw [← h9, bytes_list, nums_one, h3, ← split3 h2]
  have h11 : packE (btRd (upT s)) = 0 := by
    unfold packE
    rw [if_neg (by rw [h7]; decide), h10, if_neg (by rw [← size_list]; exact h1)]
  refine ⟨h7, h11, ?_⟩
  unfold packS
  rw [if_pos h11, h10, bytes_list]
theorem up_fail {s : ByteArray} (h : upE s ≠ 0) : upB s = ⟨0, 0, [], [], []⟩ := by unfold upB; rw [if_neg h]
end Go.Proofs.Ythnkmjjldggecaa
