/- Sentences: what a node more, or fewer nodes, mean. No program in sight. -/
import Derived.Test.YthnkmjjldggecaaMForm
namespace Go.Proofs.Ythnkmjjldggecaa
open Go.RowKit

theorem valsK_get (l : Nds) (t n : Int) (j k : Nat) (h : j < k) : (valsK l t n k).getD j false = (valsK l t n (j + 1)).getD j false := by
  induction k with
  | zero => omega
  | succ k ih =>
    by_cases e : j = k
    · subst e; rfl
    · rw [← ih (by omega)]
      simp only [valsK, List.getD, List.getElem?_append_left (show j < (valsK l t n k).length by rw [valsK_length]; omega)]
theorem valsK_last (l : Nds) (t n : Int) (k : Nat) : (valsK l t n (k + 1)).getD k false = ndVal (valsK l t n k) t n (l.getD k ⟨0, 0, 0⟩) := by
  simp [valsK, List.getD, valsK_length]
/-- Fewer of the same. -/
theorem NdsAt.take {w : World} {a : Option Addr} {n cap : Nat} {l : Nds} (h : NdsAt w (.slice a n cap) l) (m : Nat) (hm : m ≤ l.length) : NdsAt w (.slice a m cap) (l.take m) := by
  obtain ⟨a', cap', hv, hn, hb, h0, hc⟩ := h
  simp only [Value.slice.injEq] at hv
  obtain ⟨rfl, rfl, rfl⟩ := hv
  refine ⟨a, cap, by simp [Nat.min_eq_left hm], by simp; omega, by simp; omega, h0, ?_⟩
  rcases hc with hc | ⟨b, off, hab, hlt, hcc⟩
  · left
    cases l with
    | nil => simp [ndCells]
    | cons s l => simp [ndCells] at hc
  · refine .inr ⟨b, off, hab, hlt, fun j x hj => hcc j x ?_⟩
    have e : ndCells l = ndCells (l.take m) ++ ndCells (l.drop m) := by rw [← ndCells_append, List.take_append_drop]
    rw [e, List.getElem?_append_left (List.getElem?_eq_some_iff.1 hj).1]; exact hj
end Go.Proofs.Ythnkmjjldggecaa
