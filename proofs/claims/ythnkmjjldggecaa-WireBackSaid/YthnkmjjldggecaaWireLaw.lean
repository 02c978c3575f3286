/- What was unpacked is packed as it was. No walk here. -/
import Derived.Test.YthnkmjjldggecaaMWireU
import Derived.Test.YthnkmjjldggecaaMWireP
namespace Go.Proofs.Ythnkmjjldggecaa
open Go.RowKit
theorem last3 {u : ByteArray} (h : u.size = 3) : u.data.toList = b3 (headN u) := by
  have h1 : numB u false (headN u) = false := by
    unfold numB; rw [if_neg (by omega), if_neg (by omega)]
  obtain ⟨h2, -⟩ := num_fore h1
  have h3 : numV u (headN u) = headN u := by unfold numV; rw [if_neg (by omega), if_neg (by omega)]
  rw [h3] at h2
  have h4 := congrArg List.length h2
  rw [List.length_append, ← size_list] at h4
  have h5 : (b3 (headN u)).length = 3 := rfl
  have h6 : (numR u).data.toList = [] := List.eq_nil_of_length_eq_zero (by omega)
  rw [h6, List.append_nil] at h2
  exact h2
theorem split3 {s : ByteArray} (h : ¬ s.size < 3) : s.data.toList = (upT s).data.toList ++ b3 (upSum s) := by
  have h1 : (s.extract (s.size - 3) s.size).size = 3 := by rw [ByteArray.size_extract]; omega
  unfold upT upSum
  rw [← last3 h1, extract_take, extract_list, List.take_append_drop]
theorem bytes_list (s : ByteArray) : (⟨s.data.toList.toArray⟩ : ByteArray) = s := by
  obtain ⟨⟨l⟩⟩ := s; rfl
theorem BtOk.rows {w : World} {base : Nat} {vv gv pv : Value} {b : Bt} (h : UpRes w base vv gv pv b) (hb : BtOk b) : BtAt w vv gv pv b :=
  ⟨h.v.at_ (fun v hv => ⟨(hb.vers v hv).past.len, (hb.vers v hv).len⟩) (by have := hb.vlen; omega), h.g.at_ (fun g hg => ⟨(hb.gone g hg).past.len, (hb.gone g hg).len⟩) (by have := hb.glen; omega), h.p.at_ (fun p hp => hb.parts p hp) (by have := hb.plen; omega)⟩
end Go.Proofs.Ythnkmjjldggecaa
