/- Names: what strings.Compare and shelf.Id do. -/
import Derived.Test.YtippljiicnpieaaChecked
import Derived.Test.YtippljiicnpieaaBase3
import Derived.Lib.Bytealg
import Derived.Lib.Walk
namespace Go.Proofs.Ytippljiicnpieaa
open Go.RowKit
set_option maxRecDepth 100000 in
theorem cmpString_c (a b : ByteArray) (w : World) :
    Calls Try.prog 196 #[.string a, .string b] w fun e w' => e = .returned (.int .i64 (Lib.compareBytes a.data.toList b.data.toList)) ∧ w' = w := by
  go_enter Try.func196, Try.ntmps196
  go_wp2
  rw [run_callFunc_extern Try.func205 (by kernel_rfl) (by kernel_rfl) (by kernel_rfl) (e := Extern.BytealgCompare.compare) (by kernel_rfl), Lib.run_compareString]
  simp only [Result.andThen]
  rw [Oper.upon_value]
  go_wp2
  go_ret
  exact ⟨rfl, rfl⟩
set_option maxRecDepth 100000 in
theorem compare_c (a b : ByteArray) (w : World) :
    Calls Try.prog 170 #[.string a, .string b] w fun e w' => e = .returned (.int .i64 (Lib.compareBytes a.data.toList b.data.toList)) ∧ w' = w := by
  go_enter Try.func170, Try.ntmps170
  go_wp2_with fail
  (with_reducible refine (cmpString_c a b _).mono ?_)
  rintro e w' ⟨rfl, rfl⟩
  go_wp2
  go_ret
  exact ⟨rfl, rfl⟩
def letter (b : UInt8) : Bool := decide (97 ≤ b.toNat) && decide (b.toNat ≤ 122)
def idOk (s : ByteArray) : Bool := decide (0 < s.size) && decide (s.size ≤ 8) && s.data.toList.all letter
theorem size_zero {s : ByteArray} (h : s.size = 0) : s = ⟨#[]⟩ := by
  obtain ⟨⟨l⟩⟩ := s
  have : l.length = 0 := h
  rw [List.length_eq_zero_iff] at this
  subst this; rfl
theorem byteAt (s : ByteArray) (k : Nat) (h : k < s.size) : s.data.toList[k]'(by simpa using h) = s[k] := rfl
set_option maxRecDepth 100000 in
set_option maxHeartbeats 1000000 in
theorem id_c (s : ByteArray) (w : World) :
    Calls Try.prog 114 #[.string s] w fun e w' => e = .returned (.bool (idOk s)) ∧ w' = w := by
  by_cases h0 : s.size = 0
  · obtain rfl := size_zero h0
    go_enter Try.func114, Try.ntmps114
    go_wp2
    go_ret
    exact ⟨rfl, rfl⟩
  have hne : s.toList.isEmpty = false := by
    rw [ByteArray.toList_eq, List.isEmpty_eq_false_iff]
    intro h
    exact h0 (show s.data.toList.length = 0 by rw [h]; rfl)
  by_cases h8 : 8 < s.size
  · have H := Lib.hid (show idOk s = false by unfold idOk; rw [decide_eq_false (show ¬ s.size ≤ 8 by omega)]; simp)
    have h8' : decide ((8 : Int) < (s.size : Int)) = true := by simp; omega
    go_enter Try.func114, Try.ntmps114
    go_wp2
    go_ret
    exact ⟨by rw [H.out]; rfl, rfl⟩
  have h8' : decide ((8 : Int) < (s.size : Int)) = false := by simp; omega
  have H := Lib.hid (show idOk s = s.data.toList.all letter by unfold idOk; rw [decide_eq_true (show 0 < s.size by omega), decide_eq_true (show s.size ≤ 8 by omega)]; rfl)
  go_enter Try.func114, Try.ntmps114
  go_wp2
  go_loop [13] (fun i => ∃ k : Nat, k ≤ s.size ∧ i = .int .i64 k ∧ (s.data.toList.take k).all letter = true) (fun i => s.size - (intOf i).toNat)
  case atStart => exact ⟨0, Nat.zero_le _, rfl, by simp⟩
  case round =>
    obtain ⟨k, hk, rfl, hall⟩ := hrel
    have HALL := Lib.hid hall
    clear hall
    by_cases hlt : k < s.size
    · have hkl : k < s.data.toList.length := by simpa using hlt
      have HT := Lib.hid (show (s.data.toList.take (k + 1)).all letter = letter s[k] by
        rw [List.take_succ_eq_append_getElem hkl, List.all_append, HALL.out]; simp [byteAt s k hlt])
      have HB := Lib.hid (fun (hb : letter s[k] = false) => (show idOk s = false by
        rw [H.out, Bool.eq_false_iff]
        intro h
        have := List.all_eq_true.1 h _ (List.getElem_mem hkl)
        rw [byteAt s k hlt, hb] at this
        exact absurd this (by decide)))
      have hL : letter s[k] = (decide (97 ≤ s[k].toNat) && decide (s[k].toNat ≤ 122)) := rfl
      have HL := Lib.hid hL
      clear hL
      by_cases h97 : s[k].toNat < 97
      · have h1 : decide ((s[k].toNat : Int) < 97) = true := by simp; omega
        have HF := Lib.hid (HB.out (by rw [HL.out, decide_eq_false (show ¬ 97 ≤ s[k].toNat by omega)]; rfl))
        go_wp2
        go_ret
        exact ⟨by rw [HF.out]; rfl, rfl⟩
      have h1 : decide ((s[k].toNat : Int) < 97) = false := by simp; omega
      by_cases h122 : 122 < s[k].toNat
      · have h2 : decide ((122 : Int) < (s[k].toNat : Int)) = true := by simp; omega
        have HF := Lib.hid (HB.out (by rw [HL.out, decide_eq_false (show ¬ s[k].toNat ≤ 122 by omega), Bool.and_false]))
        go_wp2
        go_ret
        exact ⟨by rw [HF.out]; rfl, rfl⟩
      have h2 : decide ((122 : Int) < (s[k].toNat : Int)) = false := by simp; omega
      go_wp2
      go_round
      case rel => exact ⟨k + 1, by omega, by go_num, by rw [HT.out, HL.out, decide_eq_true (show 97 ≤ s[k].toNat by omega), decide_eq_true (show s[k].toNat ≤ 122 by omega)]; rfl⟩
      case measure => simp [intOf]; omega
    · obtain rfl : k = s.size := by omega
      have HF := Lib.hid (show idOk s = true by rw [H.out]; have := HALL.out; rwa [List.take_of_length_le (by simp)] at this)
      go_wp2
      go_ret
      exact ⟨by rw [HF.out]; rfl, rfl⟩
end Go.Proofs.Ytippljiicnpieaa
