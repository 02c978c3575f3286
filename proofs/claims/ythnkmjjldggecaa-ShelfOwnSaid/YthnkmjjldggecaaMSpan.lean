/- What the functions of package span do, one contract a function: span.In, span.Check, span.Make. What the functions of package span do, one contract a function: two, Has, Join, Meet, Less, Within, Count; and slices.Equal at spans. -/
import Derived.Test.YthnkmjjldggecaaChecked
import Derived.Test.YthnkmjjldggecaaMPure
import Derived.Deep.QuietTactic
import Derived.BigQuiet
import Derived.WalkSmall
namespace Go.Proofs.Ythnkmjjldggecaa
open Go.RowKit

/-- What span.Check knows behind k spans. -/
def chkAt (l : Spans) (k : Nat) : Int := chkFrom (if h : k = 0 ∨ l.length < k then -1 else (l[k - 1]'(by omega)).2) (l.drop k)

theorem chkAt_zero (l : Spans) : chkAt l 0 = chkFrom (-1) l := by simp [chkAt]
theorem chkAt_end (l : Spans) : chkAt l l.length = 0 := by simp [chkAt, chkFrom]
theorem chkAt_bad (l : Spans) (k : Nat) (hk : k < l.length) (h : l[k].1 < 0 ∨ 32 < l[k].2 ∨ l[k].2 ≤ l[k].1) : chkAt l k = 1 := by
  unfold chkAt; rw [List.drop_eq_getElem_cons hk]; simp only [chkFrom]; rw [if_pos h]
theorem chkAt_form (l : Spans) (k : Nat) (hk : k + 1 < l.length) (h : ¬(l[k + 1].1 < 0 ∨ 32 < l[k + 1].2 ∨ l[k + 1].2 ≤ l[k + 1].1)) (h2 : l[k + 1].1 ≤ l[k].2) : chkAt l (k + 1) = 3 := by
  unfold chkAt; rw [List.drop_eq_getElem_cons hk]; simp only [chkFrom]; rw [if_neg h, dif_neg (by omega)]; simp [h2]
theorem chkAt_zero_ok (l : Spans) (hk : 0 < l.length) (h : ¬(l[0].1 < 0 ∨ (32 : Int) < l[0].2 ∨ l[0].2 ≤ l[0].1)) : chkAt l 0 = chkAt l 1 := by
  have e : chkAt l 1 = chkFrom l[0].2 (l.drop 1) := by unfold chkAt; rw [dif_neg (by omega)]
  rw [e]; unfold chkAt; rw [dif_pos (.inl rfl), List.drop_eq_getElem_cons hk]; simp only [chkFrom]; rw [if_neg h, if_neg (by omega)]
theorem chkAt_succ_ok (l : Spans) (k : Nat) (hk : k + 1 < l.length) (h : ¬(l[k + 1].1 < 0 ∨ 32 < l[k + 1].2 ∨ l[k + 1].2 ≤ l[k + 1].1)) (h2 : l[k].2 < l[k + 1].1) : chkAt l (k + 1) = chkAt l (k + 2) := by
  have e : chkAt l (k + 2) = chkFrom l[k + 1].2 (l.drop (k + 2)) := by unfold chkAt; rw [dif_neg (by omega)]; rfl
  rw [e]; unfold chkAt; rw [dif_neg (by omega), List.drop_eq_getElem_cons hk]; simp only [chkFrom]; rw [if_neg h, if_neg (by simp; omega)]

set_option maxRecDepth 100000 in
set_option maxHeartbeats 400000 in
theorem spanChk_c (v : Value) (l : Spans) (w : World) (hs : SpansAt w v l) :
    Calls Try.prog 144 #[v] w fun e w' => e = .returned (.int .i64 (spansChk l)) ∧ Below w.heap.size w w' := by
  obtain ⟨a, cap, rfl, hcap, hm, hl⟩ := hs.open_
  clear hs hcap
  by_cases h16 : 16 < l.length
  · go_enter Try.func144, Try.ntmps144
    go_wp2
    go_ret
    exact ⟨ret_int (by simp [spansChk, h16]), Below.refl _ _⟩
  go_enter Try.func144, Try.ntmps144
  go_wp2
  go_loopw [10] (fun i wr => ∃ k : Nat, k ≤ l.length ∧ i = .int .i64 k ∧ chkAt l 0 = chkAt l k ∧ Below w.heap.size w wr) (fun i _ => l.length - (intOf i).toNat)
  case atStart => exact ⟨0, Nat.zero_le _, rfl, rfl, Below.refl _ _⟩
  case round =>
    obtain ⟨k, hk, rfl, hno, hbl⟩ := hrel
    by_cases hlt : k < l.length
    · rcases hl with rfl | ⟨b, off, rfl, hb, hc⟩
      · simp at hlt
      obtain ⟨c1, c2⟩ := hc k hlt
      have d1 := (hbl.cell (p := ⟨b, off + k * 2, none⟩) hb).trans c1
      have d2 := (hbl.cell (p := ⟨b, off + k * 2 + 1, none⟩) hb).trans c2
      have HN := Lib.hid hno
      clear c1 c2 hno
      by_cases hbad : l[k].1 < 0 ∨ 32 < l[k].2 ∨ l[k].2 ≤ l[k].1
      · have hch := chkAt_bad l k hlt hbad
        clear hc
        have hr : spansChk l = 1 := by rw [spansChk, if_neg h16, ← chkAt_zero, HN.out, hch]
        have HR := Lib.hid hr
        clear hr hch
        go_wp2
        all_goals go_ret
        all_goals exact ⟨ret_int HR.out.symm, hbl.alloc hbl.size _⟩
      · cases k with
        | zero =>
          have HC := Lib.hid (chkAt_zero_ok l hlt hbad)
          rw [Nat.zero_mul, Nat.add_zero] at d1 d2
          clear hc
          have hq : (decide (l[0].1 < 0) || decide (32 < l[0].2) || decide (l[0].2 ≤ l[0].1)) = false := by simp; omega
          go_wp2
          go_quiet (fail)
          go_wp2
          go_roundw
          case rel => exact ⟨1, by omega, by go_num, HC.out, below_drewN (hbl.alloc hbl.size _) _⟩
          case measure => simp [intOf]; omega
        | succ k =>
          obtain ⟨-, c2⟩ := hc k (by omega)
          have d3 := (hbl.cell (p := ⟨b, off + k * 2 + 1, none⟩) hb).trans c2
          have HF := Lib.hid (chkAt_form l k hlt hbad)
          have HO := Lib.hid (chkAt_succ_ok l k hlt hbad)
          clear hc c2
          have hk0 : decide ((0 : Int) < (k : Int) + 1) = true := by simp
          have hw := IntWalk.i64_in ((k : Int) + 1 - 1) (by omega)
          have hw2 : ((k : Int) + 1 - 1) = k := by omega
          rw [hw2] at hw
          have hi : (k : Int) < l.length := by omega
          have hbw : b < wr.heap.size := Nat.lt_of_lt_of_le hb hbl.size
          go_wp2
          go_quiet (fail)
          go_wp2
          · go_ret
            exact ⟨ret_int (by rw [spansChk, if_neg h16, ← chkAt_zero, HN.out, HF.out (by assumption)]), below_drewN (hbl.alloc hbl.size _) _⟩
          · go_roundw
            case rel => exact ⟨k + 2, by omega, by go_num, HN.out.trans (HO.out (by assumption)), below_drewN (hbl.alloc hbl.size _) _⟩
            case measure => simp [intOf]; omega
    · go_wp2
      go_ret
      have : k = l.length := by omega
      subst this
      exact ⟨ret_int (by rw [chkAt_end] at hno; rw [spansChk, if_neg h16, ← chkAt_zero, hno]), hbl⟩

end Go.Proofs.Ythnkmjjldggecaa
namespace Go.Proofs.Ythnkmjjldggecaa
open Go.RowKit

def two (a b : Spans) : Int := if spansChk a = 0 then spansChk b else spansChk a
theorem chkFrom_bounds (last : Int) (l : Spans) (h : chkFrom last l = 0) : ∀ s ∈ l, 0 ≤ s.1 ∧ s.1 < s.2 ∧ s.2 ≤ 32 := by
  induction l generalizing last with
  | nil => simp
  | cons s l ih =>
    simp only [chkFrom] at h
    split at h
    · simp at h
    split at h
    · simp at h
    intro t ht
    rcases List.mem_cons.1 ht with rfl | ht
    · omega
    · exact ih _ h t ht
theorem spansChk_bounds {l : Spans} (h : spansChk l = 0) : l.length ≤ 16 ∧ ∀ s ∈ l, 0 ≤ s.1 ∧ s.1 < s.2 ∧ s.2 ≤ 32 := by
  unfold spansChk at h; split at h
  · simp at h
  · exact ⟨by omega, chkFrom_bounds _ l h⟩
end Go.Proofs.Ythnkmjjldggecaa
