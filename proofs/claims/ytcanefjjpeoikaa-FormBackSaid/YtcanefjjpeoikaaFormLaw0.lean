/- Sentences: what a node more, or fewer nodes, mean. No program in sight. -/
import Derived.Test.YtcanefjjpeoikaaForm2
namespace Go.Proofs.Ytcanefjjpeoikaa
open Go.RowKit

theorem ndsFrom_of (l : Nds) (i : Nat) (h : ∀ k (hk : k < l.length), ndChk (i + k) l[k] = 0) : ndsFrom i l = 0 := by
  induction l generalizing i with
  | nil => rfl
  | cons n l ih =>
    have h0 := h 0 (by simp)
    simp only [Nat.add_zero, List.getElem_cons_zero] at h0
    simp only [ndsFrom, h0, if_true]
    refine ih (i + 1) fun k hk => ?_
    have := h (k + 1) (by simpa using hk)
    rw [show i + 1 + k = i + (k + 1) from by omega]; simpa using this
theorem formChk_of {l : Nds} (h0 : 0 < l.length) (h1 : l.length ≤ 30) (h : ∀ k (hk : k < l.length), ndChk k l[k] = 0) : formChk l = 0 := by
  unfold formChk
  rw [if_neg (by omega)]
  exact ndsFrom_of l 0 fun k hk => by simpa using h k hk
theorem formChk_take {l : Nds} (h : formChk l = 0) (m : Nat) (hm : 0 < m) (hl : m ≤ l.length) : formChk (l.take m) = 0 := by
  obtain ⟨h1, h2, h3⟩ := formChk_all h
  refine formChk_of (by simp; omega) (by simp; omega) fun k hk => ?_
  rw [List.getElem_take]; exact h3 k _
theorem formChk_snoc {l : Nds} {x : Nd} (h : formChk l = 0) (hl : l.length < 30) (hx : ndChk l.length x = 0) : formChk (l ++ [x]) = 0 := by
  obtain ⟨h1, h2, h3⟩ := formChk_all h
  refine formChk_of (by simp) (by simp; omega) fun k hk => ?_
  rw [List.getElem_append]
  split
  · exact h3 k _
  · have : k = l.length := by simp at hk; omega
    subst this; simpa using hx
theorem valsK_congr (l m : Nds) (t n : Int) (k : Nat) (h : ∀ j, j < k → l.getD j ⟨0, 0, 0⟩ = m.getD j ⟨0, 0, 0⟩) : valsK l t n k = valsK m t n k := by
  induction k with
  | zero => rfl
  | succ k ih => simp only [valsK]; rw [ih fun j hj => h j (by omega), h k (by omega)]
theorem valsK_app (l m : Nds) (t n : Int) (k : Nat) (h : k ≤ l.length) : valsK (l ++ m) t n k = valsK l t n k :=
  valsK_congr _ _ _ _ _ fun j hj => by simp [List.getD, List.getElem?_append_left (show j < l.length by omega)]
theorem valsK_take (l : Nds) (t n : Int) (k m : Nat) (h : k ≤ m) : valsK (l.take m) t n k = valsK l t n k :=
  valsK_congr _ _ _ _ _ fun j hj => by simp [List.getD, List.getElem?_take, show j < m by omega]
theorem valsK_get (l : Nds) (t n : Int) (j k : Nat) (h : j < k) : (valsK l t n k).getD j false = (valsK l t n (j + 1)).getD j false := by
  induction k with
  | zero => omega
  | succ k ih =>
    by_cases e : j = k
    · subst e; rfl
    · rw [← ih (by omega)]
      simp only [valsK, List.getD, List.getElem?_append_left (show j < (valsK l t n k).length by rw [valsK_length]; omega)]
theorem valsK_last (l : Nds) (t n : Int) (k : Nat) : (valsK l t n (k + 1)).getD k false = ndVal (valsK l t n k) t n (l.getD k ⟨0, 0, 0⟩) := by
  simp [valsK, List.getD, valsK_length]
theorem formVal_take (l : Nds) (t n : Int) (a : Nat) (h : a < l.length) : formVal (l.take (a + 1)) t n = (valsK l t n l.length).getD a false := by
  unfold formVal
  rw [List.length_take, Nat.min_eq_left (by omega), valsK_take _ _ _ _ _ (Nat.le_refl _), valsK_get l t n a l.length h]; rfl
theorem formVal_snoc (l : Nds) (x : Nd) (t n : Int) : formVal (l ++ [x]) t n = ndVal (valsK l t n l.length) t n x := by
  unfold formVal
  rw [List.length_append, List.length_singleton, Nat.add_sub_cancel, valsK_last, valsK_app _ _ _ _ _ (Nat.le_refl _)]
  simp [List.getD]
theorem formIs_of {l : Nds} {t n : Int} (h : formChk l = 0) (hp : ptOk t n = true) : formIs l t n = formVal l t n ∧ formIsE l t n = 0 := by simp [formIs, formIsE, h, hp]

/-- One node written out, just laid. -/
theorem ndLit (w : World) (k a b : Int) (t : TypeId) (i : Nat) (hi : i = w.heap.size) : NdsAt (w.alloc (.cells #[.int .i64 k, .int .i64 a, .int .i64 b] t)) (.slice (some ⟨i, 0, none⟩) 1 1) [⟨k, a, b⟩] := by
  subst hi
  refine CellsAt.mk (Nat.le_refl _) (by simp) (by simp) fun j x hj => ?_
  rw [Nat.zero_add, World.cell?_alloc_at _ _ _ _ rfl]
  simpa [ndCells] using hj
/-- Fewer of the same. -/
theorem NdsAt.take {w : World} {a : Option Addr} {n cap : Nat} {l : Nds} (h : NdsAt w (.slice a n cap) l) (m : Nat) (hm : m ≤ l.length) : NdsAt w (.slice a m cap) (l.take m) := by
  obtain ⟨a', cap', hv, hn, hb, h0, hc⟩ := h
  simp only [Value.slice.injEq] at hv
  obtain ⟨rfl, rfl, rfl⟩ := hv
  refine ⟨a, cap, by simp [Nat.min_eq_left hm], by simp; omega, by simp; omega, h0, ?_⟩
  rcases hc with hc | ⟨b, off, hab, hlt, hcc⟩
  · left
    cases l with
    | nil => simp [ndCells]
    | cons s l => simp [ndCells] at hc
  · refine .inr ⟨b, off, hab, hlt, fun j x hj => hcc j x ?_⟩
    have e : ndCells l = ndCells (l.take m) ++ ndCells (l.drop m) := by rw [← ndCells_append, List.take_append_drop]
    rw [e, List.getElem?_append_left (List.getElem?_eq_some_iff.1 hj).1]; exact hj
end Go.Proofs.Ytcanefjjpeoikaa
