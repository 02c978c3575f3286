/- What formula.Check does. -/
import Derived.Test.YtcanefjjpeoikaaChecked
import Derived.Test.YtcanefjjpeoikaaFormPure
import Derived.Deep.QuietTactic
import Derived.BigQuiet
namespace Go.Proofs.Ytcanefjjpeoikaa
open Go.RowKit

theorem kind_cases (k : Int) : k = 1 ∨ k = 2 ∨ k = 3 ∨ k = 4 ∨ k = 5 ∨ k = 6 ∨ ((k == 1) = false ∧ (k == 2) = false ∧ (k == 3) = false ∧ (k == 4) = false ∧ (k == 5) = false ∧ (k == 6) = false) := by
  simp; omega

set_option maxRecDepth 100000 in
set_option maxHeartbeats 2000000 in
theorem formChk_c (v : Value) (l : Nds) (w : World) (hs : NdsAt w v l) :
    Calls Try.prog 16 #[v] w fun e w' => e = .returned (.int .i64 (formChk l)) ∧ Below w.heap.size w w' := by
  obtain ⟨a, cap, rfl, hcap, hm, -, hl⟩ := hs.open_
  clear hs
  by_cases h0 : l.length = 0
  · have H := Lib.hid (show formChk l = 2 by simp [formChk, h0])
    rw [h0]
    clear h0 hcap hm hl
    go_enter Try.func16, Try.ntmps16
    go_wp2
    go_ret
    exact ⟨ret_int H.out.symm, Below.refl _ _⟩
  have hz : ((l.length : Int) == 0) = false := by rw [beq_eq_false_iff_ne]; omega
  have hne : 0 < l.length := by omega
  clear h0
  by_cases h30 : 30 < l.length
  · have H := Lib.hid (show formChk l = 2 by simp [formChk, h30])
    clear hl
    go_enter Try.func16, Try.ntmps16
    go_wp2
    go_ret
    exact ⟨ret_int H.out.symm, Below.refl _ _⟩
  have HF := Lib.hid (show formChk l = ndsFrom 0 (l.drop 0) by rw [formChk, if_neg (by omega)]; rfl)
  go_enter Try.func16, Try.ntmps16
  go_wp2
  go_loopw [15] (fun i wr => ∃ k : Nat, k ≤ l.length ∧ i = .int .i64 k ∧ formChk l = ndsFrom k (l.drop k) ∧ Below w.heap.size w wr) (fun i _ => l.length - (intOf i).toNat)
  case atStart => exact ⟨0, Nat.zero_le _, rfl, HF.out, Below.refl _ _⟩
  case round =>
    obtain ⟨k, hk, rfl, hno, hbl⟩ := hrel
    have HN := Lib.hid hno
    clear hno HF
    by_cases hlt : k < l.length
    · rcases hl with rfl | ⟨b, off, rfl, hb, hc⟩
      · simp at hlt
      obtain ⟨c1, c2, c3⟩ := hc k hlt
      have d1 := (hbl.cell (p := ⟨b, off + k * 3, none⟩) hb).trans c1
      have d2 := (hbl.cell (p := ⟨b, off + k * 3 + 1, none⟩) hb).trans c2
      have d3 := (hbl.cell (p := ⟨b, off + k * 3 + 2, none⟩) hb).trans c3
      have HOK := Lib.hid (fun h => HN.out.trans (ndsFrom_ok l k hlt h))
      have HBAD := Lib.hid (fun h => HN.out.trans (ndsFrom_bad l k hlt h))
      clear c1 c2 c3 hc
      generalize l[k] = nd at *
      obtain ⟨kk, aa, bb⟩ := nd
      rcases kind_cases kk with rfl | rfl | rfl | rfl | rfl | rfl | ⟨e1, e2, e3, e4, e5, e6⟩
      · have H := Lib.hid (HOK.out (by simp [ndChk]))
        clear HOK HBAD
        go_wp2
        go_roundw
        case rel => exact ⟨k + 1, by omega, by go_num, H.out, hbl.alloc hbl.size _⟩
        case measure => simp [intOf]; omega
      · by_cases hbad : aa < 0 ∨ 4 ≤ aa
        · have H := Lib.hid ((HBAD.out (by simp [ndChk, hbad])).trans (show _ = (1 : Int) by simp [ndChk, hbad]))
          clear HOK HBAD
          go_wp2
          all_goals go_ret
          all_goals exact ⟨ret_int H.out.symm, hbl.alloc hbl.size _⟩
        · have H := Lib.hid (HOK.out (by simp [ndChk, hbad]))
          clear HOK HBAD
          go_wp2
          all_goals go_roundw
          case rel => exact ⟨k + 1, by omega, by go_num, H.out, hbl.alloc hbl.size _⟩
          case measure => simp [intOf]; omega
      · by_cases hbad : aa < 0 ∨ 32 < bb ∨ bb ≤ aa
        · have H := Lib.hid ((HBAD.out (by simp [ndChk, hbad])).trans (show _ = (1 : Int) by simp [ndChk, hbad]))
          clear HOK HBAD
          go_wp2
          all_goals go_ret
          all_goals exact ⟨ret_int H.out.symm, hbl.alloc hbl.size _⟩
        · have H := Lib.hid (HOK.out (by simp [ndChk, hbad]))
          clear HOK HBAD
          go_wp2
          all_goals go_roundw
          case rel => exact ⟨k + 1, by omega, by go_num, H.out, hbl.alloc hbl.size _⟩
          case measure => simp [intOf]; omega
      · by_cases hbad : aa < 0 ∨ (k : Int) ≤ aa
        · have H := Lib.hid ((HBAD.out (by simp [ndChk, hbad])).trans (show _ = (1 : Int) by simp [ndChk, hbad]))
          clear HOK HBAD
          go_wp2
          all_goals go_ret
          all_goals exact ⟨ret_int H.out.symm, hbl.alloc hbl.size _⟩
        · have H := Lib.hid (HOK.out (by simp [ndChk, hbad]))
          clear HOK HBAD
          go_wp2
          all_goals go_roundw
          case rel => exact ⟨k + 1, by omega, by go_num, H.out, hbl.alloc hbl.size _⟩
          case measure => simp [intOf]; omega
      · by_cases hbad : aa < 0 ∨ (k : Int) ≤ aa ∨ bb < 0 ∨ (k : Int) ≤ bb
        · have H := Lib.hid ((HBAD.out (by simp [ndChk, hbad])).trans (show _ = (1 : Int) by simp [ndChk, hbad]))
          clear HOK HBAD
          go_wp2
          all_goals go_ret
          all_goals exact ⟨ret_int H.out.symm, hbl.alloc hbl.size _⟩
        · have H := Lib.hid (HOK.out (by simp [ndChk, hbad]))
          clear HOK HBAD
          go_wp2
          all_goals go_roundw
          case rel => exact ⟨k + 1, by omega, by go_num, H.out, hbl.alloc hbl.size _⟩
          case measure => simp [intOf]; omega
      · by_cases hbad : aa < 0 ∨ (k : Int) ≤ aa ∨ bb < 0 ∨ (k : Int) ≤ bb
        · have H := Lib.hid ((HBAD.out (by simp [ndChk, hbad])).trans (show _ = (1 : Int) by simp [ndChk, hbad]))
          clear HOK HBAD
          go_wp2
          all_goals go_ret
          all_goals exact ⟨ret_int H.out.symm, hbl.alloc hbl.size _⟩
        · have H := Lib.hid (HOK.out (by simp [ndChk, hbad]))
          clear HOK HBAD
          go_wp2
          all_goals go_roundw
          case rel => exact ⟨k + 1, by omega, by go_num, H.out, hbl.alloc hbl.size _⟩
          case measure => simp [intOf]; omega
      · have f : ¬ kk = 1 ∧ ¬ kk = 2 ∧ ¬ kk = 3 ∧ ¬ kk = 4 ∧ ¬ (kk = 5 ∨ kk = 6) := by simp at e1 e2 e3 e4 e5 e6; omega
        have hv : ndChk k ⟨kk, aa, bb⟩ = 3 := by simp [ndChk, f]
        have H := Lib.hid ((HBAD.out (by rw [hv]; decide)).trans hv)
        clear HOK HBAD f hv
        go_wp2
        all_goals go_ret
        all_goals exact ⟨ret_int H.out.symm, hbl.alloc hbl.size _⟩
    · obtain rfl : k = l.length := by omega
      go_wp2
      go_ret
      exact ⟨ret_int (by rw [HN.out]; simp [ndsFrom]), hbl⟩
end Go.Proofs.Ytcanefjjpeoikaa
