/- How many points. No program in sight. -/
import Derived.Test.YtcanefjjpeoikaaFilterCubes
import Derived.Test.YtcanefjjpeoikaaSpanLaw0
namespace Go.Proofs.Ytcanefjjpeoikaa
open Go.RowKit
theorem cnt_shift (p : Nat → Bool) (k : Nat) : cnt p (k + 1) = (if p 0 then 1 else 0) + cnt (fun n => p (n + 1)) k := by
  induction k with
  | zero => simp [cnt]
  | succ k ih =>
    rw [cnt, ih, cnt]; omega
theorem cnt_congr {p q : Nat → Bool} (k : Nat) (h : ∀ n, n < k → p n = q n) : cnt p k = cnt q k := by
  induction k with
  | zero => rfl
  | succ k ih => rw [cnt, cnt, ih fun n hn => h n (by omega), h k (by omega)]
theorem cnt_clear (k : Nat) : ∀ x : Nat, 0 < x → x < 2 ^ k → cnt (fun n => (x &&& (x - 1)).testBit n) k + 1 = cnt (fun n => x.testBit n) k := by
  induction k with
  | zero => intro x h1 h2; simp at h2; omega
  | succ k ih =>
    intro x h1 h2
    have e2 : 2 ^ (k + 1) = 2 * 2 ^ k := by rw [Nat.pow_succ]; omega
    rw [show (fun n => (x &&& (x - 1)).testBit n) = fun n => x.testBit n && (x - 1).testBit n from by funext n; rw [Nat.testBit_and], cnt_shift, cnt_shift (fun n => x.testBit n)]
    simp only [Nat.testBit_succ, Nat.testBit_zero]
    rcases Nat.mod_two_eq_zero_or_one x with h0 | h0
    · have hy : 0 < x / 2 := by omega
      have hz : (x - 1) / 2 = x / 2 - 1 := by omega
      have := ih (x / 2) hy (by omega)
      simp only [Nat.testBit_and] at this
      simp only [hz, h0]
      simp
      omega
    · have hz : (x - 1) / 2 = x / 2 := by omega
      have h3 : (x - 1) % 2 = 0 := by omega
      simp only [hz, h0, h3, Bool.and_self]
      simp
      omega
theorem and_pred_lt (x : Nat) (h : 0 < x) : x &&& (x - 1) < x := Nat.lt_of_le_of_lt Nat.and_le_right (by omega)

/-- How many points a filter has. -/
def cntT (p : Nat → Nat → Bool) : Nat → Int
  | 0 => 0
  | k + 1 => cntT p k + cnt (p k) 32
def cntF (p : Nat → Nat → Bool) : Int := cntT p 16
theorem cntT_congr {p q : Nat → Nat → Bool} (k : Nat) (hk : k ≤ 16) (h : ∀ t n, t < 16 → n < 32 → p t n = q t n) : cntT p k = cntT q k := by
  induction k with
  | zero => rfl
  | succ k ih => rw [cntT, cntT, ih (by omega), cnt_congr 32 fun n hn => h k n (by omega) hn]
theorem cntF_congr {p q : Nat → Nat → Bool} (h : ∀ t n, t < 16 → n < 32 → p t n = q t n) : cntF p = cntF q := cntT_congr 16 (Nat.le_refl _) h
theorem cntT_bd (p : Nat → Nat → Bool) (k : Nat) : 0 ≤ cntT p k ∧ cntT p k ≤ 32 * k := by
  induction k with
  | zero => simp [cntT]
  | succ k ih => rw [cntT]; have := cnt_bd (p k) 32; omega
theorem cntT_add (p q r s : Nat → Nat → Bool) (h : ∀ t n : Nat, (if p t n then (1 : Int) else 0) + (if q t n then 1 else 0) = (if r t n then 1 else 0) + (if s t n then 1 else 0)) (k : Nat) : cntT p k + cntT q k = cntT r k + cntT s k := by
  induction k with
  | zero => rfl
  | succ k ih => simp only [cntT]; have := cnt_add (p k) (q k) (r k) (s k) 32 (fun n _ => h k n); omega
theorem cntF_both (p q : Nat → Nat → Bool) : cntF p + cntF q = cntF (fun t n => p t n || q t n) + cntF (fun t n => p t n && q t n) :=
  cntT_add _ _ _ _ (fun t n => by cases p t n <;> cases q t n <;> simp) 16
/-- All points. -/
def allPt (p : Nat → Nat → Bool) : Bool := (List.range 16).all fun t => allB (p t)
theorem allPt_iff (p : Nat → Nat → Bool) : allPt p = true ↔ ∀ t n, t < 16 → n < 32 → p t n = true := by
  simp only [allPt, List.all_eq_true, List.mem_range, allB_iff]
  exact ⟨fun h t n ht hn => h t ht n hn, fun h t ht n hn => h t n ht hn⟩
theorem allPt_congr {p q : Nat → Nat → Bool} (h : ∀ t n, t < 16 → n < 32 → p t n = q t n) : allPt p = allPt q := by
  rw [Bool.eq_iff_iff, allPt_iff, allPt_iff]
  exact ⟨fun H t n ht hn => by rw [← h t n ht hn]; exact H t n ht hn, fun H t n ht hn => by rw [h t n ht hn]; exact H t n ht hn⟩
theorem cnt_mono {p q : Nat → Bool} (k : Nat) (h : ∀ n, n < k → p n = true → q n = true) : cnt p k ≤ cnt q k ∧ (cnt p k = cnt q k → ∀ n, n < k → q n = true → p n = true) := by
  induction k with
  | zero => exact ⟨Int.le_refl _, fun _ n hn => by omega⟩
  | succ k ih =>
    obtain ⟨h1, h2⟩ := ih fun n hn => h n (by omega)
    have hk := h k (by omega)
    simp only [cnt]
    cases hp : p k <;> cases hq : q k
    · simp only [if_false, Bool.false_eq_true, Int.add_zero]
      refine ⟨h1, fun e n hn hqn => ?_⟩
      by_cases e2 : n = k
      · subst e2; rw [hq] at hqn; exact absurd hqn (by decide)
      · exact h2 e n (by omega) hqn
    · simp only [if_false, Bool.false_eq_true, Int.add_zero, if_true]
      exact ⟨by omega, fun e => by omega⟩
    · rw [hk hp] at hq; exact absurd hq (by decide)
    · simp only [if_true]
      refine ⟨by omega, fun e n hn hqn => ?_⟩
      by_cases e2 : n = k
      · subst e2; exact hp
      · exact h2 (by omega) n (by omega) hqn
theorem cntT_mono {p q : Nat → Nat → Bool} (k : Nat) (hk : k ≤ 16) (h : ∀ t n, t < 16 → n < 32 → p t n = true → q t n = true) : cntT p k ≤ cntT q k ∧ (cntT p k = cntT q k → ∀ t n, t < k → n < 32 → q t n = true → p t n = true) := by
  induction k with
  | zero => exact ⟨Int.le_refl _, fun _ t n ht => by omega⟩
  | succ k ih =>
    obtain ⟨h1, h2⟩ := ih (by omega)
    obtain ⟨h3, h4⟩ := cnt_mono (p := p k) (q := q k) 32 fun n hn => h k n (by omega) hn
    simp only [cntT]
    refine ⟨by omega, fun e t n ht hn hq => ?_⟩
    by_cases e2 : t = k
    · subst e2; exact h4 (by omega) n hn hq
    · exact h2 (by omega) t n (by omega) hn hq
theorem cntF_zero (p : Nat → Nat → Bool) : (cntF p = 0) ↔ allPt (fun t n => !p t n) = true := by
  rw [allPt_iff]
  constructor
  · intro h t n ht hn
    have hm := cntT_mono (p := fun _ _ => false) (q := p) 16 (Nat.le_refl _) (fun _ _ _ _ h => absurd h (by decide))
    have h0 : cntT (fun _ _ => false) 16 = 0 := by
      have : ∀ k, cntT (fun _ _ => false) k = 0 := by
        intro k; induction k with
        | zero => rfl
        | succ k ih => rw [cntT, ih, cnt_false]; rfl
      exact this 16
    cases hp : p t n
    · rfl
    · exact absurd (hm.2 (by rw [h0]; exact h.symm) t n ht hn hp) (by decide)
  · intro h
    have : cntF p = cntF (fun _ _ => false) := cntF_congr fun t n ht hn => by have := h t n ht hn; simpa using this
    rw [this]
    have : ∀ k, cntT (fun _ _ => false) k = 0 := by
      intro k; induction k with
      | zero => rfl
      | succ k ih => rw [cntT, ih, cnt_false]; rfl
    exact this 16
end Go.Proofs.Ytcanefjjpeoikaa
