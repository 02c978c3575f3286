/- What slices.Equal does to integers and to dots; reedref.SameKnow, know.Within. -/
import Derived.Test.YthnkmjjldggecaaMixed
import Derived.Test.YthnkmjjldggecaaKnow1
import Derived.WalkArith
import Derived.Laws.Shifts
import Derived.Test.YthnkmjjldggecaaBase3
import Derived.Test.YthnkmjjldggecaaMPure
import Derived.Test.YthnkmjjldggecaaChecked
import Derived.Test.YthnkmjjldggecaaBase2
import Derived.Test.YthnkmjjldggecaaKnowSort
import Derived.Lib.AppendZeros
namespace Go.Proofs.Ythnkmjjldggecaa
open Go.RowKit
set_option maxRecDepth 100000 in
set_option maxHeartbeats 400000 in
theorem eqInts_c (va vb : Value) (a b : List Int) (w : World) (ha : IsAt w va a) (hb : IsAt w vb b) :
    Calls Try.prog 23 #[va, vb] w fun e w' => e = .returned (.bool (a == b)) ∧ Below w.heap.size w w' := by
  obtain ⟨xa, ca, rfl, hcap, hm, -, hla⟩ := ha.open_
  obtain ⟨xb, cb, rfl, hcapb, hmb, -, hlb⟩ := hb.open_
  clear ha hb
  go_enter Try.func23, Try.ntmps23
  by_cases hlen : a.length = b.length
  · rw [← hlen]
    rw [← hlen] at hcapb hmb
    have HL := Lib.hid hlen
    clear hlen
    go_wp2
    go_loopw [13] (fun i wr => ∃ k : Nat, k ≤ a.length ∧ i = .int .i64 k ∧ a.take k = b.take k ∧ Below w.heap.size w wr) (fun i _ => a.length - (intOf i).toNat)
    case atStart => exact ⟨0, Nat.zero_le _, rfl, rfl, Below.refl _ _⟩
    case round =>
      obtain ⟨k, hk, rfl, heq, hbl⟩ := hrel
      have HE := Lib.hid heq
      clear heq
      by_cases hlt : k < a.length
      · rcases hla with rfl | ⟨b0, off, rfl, hb0, hc⟩
        · simp at hlt
        rcases hlb with rfl | ⟨b1, off1, rfl, hb1, hc1⟩
        · have := HL.out; simp at this; rw [this] at hlt; simp at hlt
        have hltb : k < b.length := by have := HL.out; omega
        have d1 := (hbl.cell (p := ⟨b0, off + k, none⟩) hb0).trans (hc k hlt)
        have d2 := (hbl.cell (p := ⟨b1, off1 + k, none⟩) hb1).trans (hc1 k hltb)
        have HTA := Lib.hid (List.take_succ_eq_append_getElem hlt)
        have HTB := Lib.hid (List.take_succ_eq_append_getElem hltb)
        have HGA := Lib.hid (fun h : a = b => show a[k] = b[k] by subst h; rfl)
        clear hc hc1
        generalize a[k] = x at *
        generalize b[k] = y at *
        by_cases hxy : x = y
        · have hx : (x != y) = false := by simp [hxy]
          have HXY := Lib.hid hxy
          clear hxy
          go_wp2
          go_quiet (fail)
          go_wp2
          go_roundw
          case rel => exact ⟨k + 1, by omega, by go_num, by rw [HTA.out, HTB.out, HE.out, HXY.out], below_drewN hbl _⟩
          case measure => simp [intOf]; omega
        · have hx : (x != y) = true := by simp [hxy]
          have HXY := Lib.hid hxy
          clear hxy
          go_wp2
          go_quiet (fail)
          go_wp2
          go_ret
          exact ⟨ret_bool (by symm; rw [beq_eq_false_iff_ne]; intro e; exact HXY.out (HGA.out e)), below_drewN hbl _⟩
      · go_wp2
        go_ret
        have : k = a.length := by omega
        subst this
        exact ⟨ret_bool (by have h := HE.out; rw [List.take_length, HL.out, List.take_length] at h; simp [h]), hbl⟩
  · have H := Lib.hid hlen
    have h' : ((a.length : Int) != b.length) = true := by simp; omega
    clear hlen
    go_wp2
    go_ret
    exact ⟨ret_bool (by symm; simpa using fun h => H.out (by rw [h])), Below.refl _ _⟩
end Go.Proofs.Ythnkmjjldggecaa
