/- Plain laws on sets of numbers: what 'make' has is what its predicate says; its form is the only one; 'told' is 'make'. No program in sight. -/
import Derived.Test.YtcanefjjpeoikaaSpan3
namespace Go.Proofs.Ytcanefjjpeoikaa

theorem inB_nil (n : Int) : inB [] n = false := rfl
theorem inB_cons (s : Int × Int) (l : Spans) (n : Int) : inB (s :: l) n = ((decide (s.1 ≤ n) && decide (n < s.2)) || inB l n) := rfl
theorem inB_append (l m : Spans) (n : Int) : inB (l ++ m) n = (inB l n || inB m n) := by simp [inB]

theorem chk_cons (last : Int) (s : Int × Int) (l : Spans) : chkFrom last (s :: l) = 0 ↔ (0 ≤ s.1 ∧ s.1 < s.2 ∧ s.2 ≤ 32) ∧ last < s.1 ∧ chkFrom s.2 l = 0 := by
  simp only [chkFrom]
  split
  · constructor
    · intro h; simp at h
    · intro h; omega
  split
  · constructor
    · intro h; simp at h
    · intro h; omega
  constructor
  · intro h; exact ⟨by omega, by omega, h⟩
  · intro h; exact h.2.2

theorem chk_mono {last last' : Int} {l : Spans} (h : chkFrom last l = 0) (hl : last' ≤ last) : chkFrom last' l = 0 := by
  cases l with
  | nil => rfl
  | cons s l => rw [chk_cons] at *; exact ⟨h.1, by omega, h.2.2⟩

theorem chk_low {last : Int} {l : Spans} (h : chkFrom last l = 0) (n : Int) (hn : n ≤ last) : inB l n = false := by
  induction l generalizing last with
  | nil => rfl
  | cons s l ih =>
    rw [chk_cons] at h
    rw [inB_cons, ih h.2.2 (by omega)]
    simp; omega
theorem chk_high {last : Int} {l : Spans} (h : chkFrom last l = 0) (n : Int) (hn : 32 ≤ n) : inB l n = false := by
  induction l generalizing last with
  | nil => rfl
  | cons s l ih =>
    rw [chk_cons] at h
    rw [inB_cons, ih h.2.2]
    simp; omega

/-- The form is the only one. -/
theorem chk_unique {last last' : Int} {l m : Spans} (h : chkFrom last l = 0) (k : chkFrom last' m = 0) (e : ∀ n, inB l n = inB m n) : l = m := by
  induction l generalizing last last' m with
  | nil =>
    cases m with
    | nil => rfl
    | cons t m => rw [chk_cons] at k; have := e t.1; rw [inB_nil, inB_cons] at this; simp at this; omega
  | cons s l ih =>
    cases m with
    | nil => rw [chk_cons] at h; have := e s.1; rw [inB_nil, inB_cons] at this; simp at this; omega
    | cons t m =>
      rw [chk_cons] at h k
      have h1 : s.1 = t.1 := by
        have a := e s.1; have b := e t.1
        rw [inB_cons, inB_cons] at a b
        by_cases hc : s.1 < t.1
        · rw [chk_low h.2.2 s.1 (by omega), chk_low k.2.2 s.1 (by omega)] at a; rw [Bool.eq_iff_iff] at a; simp at a; omega
        · by_cases hc : t.1 < s.1
          · rw [chk_low h.2.2 t.1 (by omega), chk_low k.2.2 t.1 (by omega)] at b; rw [Bool.eq_iff_iff] at b; simp at b; omega
          · omega
      have h2 : s.2 = t.2 := by
        have a := e s.2; have b := e t.2
        rw [inB_cons, inB_cons] at a b
        by_cases hc : s.2 < t.2
        · rw [chk_low h.2.2 s.2 (by omega), chk_low k.2.2 s.2 (by omega)] at a; rw [Bool.eq_iff_iff] at a; simp at a; omega
        · by_cases hc : t.2 < s.2
          · rw [chk_low h.2.2 t.2 (by omega), chk_low k.2.2 t.2 (by omega)] at b; rw [Bool.eq_iff_iff] at b; simp at b; omega
          · omega
      obtain rfl : s = t := Prod.ext h1 h2
      congr 1
      refine ih h.2.2 k.2.2 fun n => ?_
      have a := e n
      rw [inB_cons, inB_cons] at a
      by_cases hn : s.2 < n
      · have : (decide (s.1 ≤ n) && decide (n < s.2)) = false := by simp; omega
        rw [this] at a; simpa using a
      · rw [chk_low h.2.2 n (by omega), chk_low k.2.2 n (by omega)]

theorem chk_length {last : Int} {l : Spans} (h : chkFrom last l = 0) (hl : last ≤ 32) : 2 * (l.length : Int) + last ≤ 32 := by
  induction l generalizing last with
  | nil => simpa using hl
  | cons s l ih => rw [chk_cons] at h; have := ih h.2.2 (by omega); simp only [List.length_cons]; omega

theorem spansChk_of {l : Spans} (h : chkFrom (-1) l = 0) : spansChk l = 0 := by
  unfold spansChk; have := chk_length h (by decide); rw [if_neg (by omega)]; exact h

theorem chk_append {last : Int} {l : Spans} {s : Int × Int} (h : chkFrom last l = 0) (hs : 0 ≤ s.1 ∧ s.1 < s.2 ∧ s.2 ≤ 32) (hl : last < s.1) (ho : ∀ t ∈ l, t.2 < s.1) : chkFrom last (l ++ [s]) = 0 := by
  induction l generalizing last with
  | nil => show chkFrom last [s] = 0; rw [chk_cons]; exact ⟨hs, hl, rfl⟩
  | cons t l ih =>
    rw [chk_cons] at h
    rw [List.cons_append, chk_cons]
    exact ⟨h.1, h.2.1, ih h.2.2 (ho t (by simp)) fun u hu => ho u (by simp [hu])⟩
theorem chk_init {last : Int} {l m : Spans} (h : chkFrom last (l ++ m) = 0) : chkFrom last l = 0 := by
  induction l generalizing last with
  | nil => rfl
  | cons t l ih => rw [List.cons_append, chk_cons] at h; rw [chk_cons]; exact ⟨h.1, h.2.1, ih h.2.2⟩
theorem chk_last {last : Int} {l : Spans} {s : Int × Int} (h : chkFrom last (l ++ [s]) = 0) : (0 ≤ s.1 ∧ s.1 < s.2 ∧ s.2 ≤ 32) ∧ last < s.1 ∧ ∀ t ∈ l, t.2 < s.1 := by
  induction l generalizing last with
  | nil => have h' : chkFrom last [s] = 0 := h; rw [chk_cons] at h'; exact ⟨h'.1, h'.2.1, by simp⟩
  | cons t l ih =>
    rw [List.cons_append, chk_cons] at h
    obtain ⟨a, b, c⟩ := ih h.2.2
    refine ⟨a, by omega, fun u hu => ?_⟩
    rcases List.mem_cons.1 hu with rfl | hu
    · exact b
    · exact c u hu

theorem mk_good (p : Nat → Bool) (k : Nat) (hk : k ≤ 32) : chkFrom (-1) (mk p k) = 0 ∧ (∀ s ∈ mk p k, s.2 ≤ (k : Int)) ∧ ∀ n : Int, inB (mk p k) n = (decide (0 ≤ n) && decide (n < (k : Int)) && p n.toNat) := by
  induction k with
  | zero => refine ⟨rfl, by simp [mk], fun n => ?_⟩; simp [mk, inB_nil]; omega
  | succ k ih =>
    obtain ⟨h1, h2, h3⟩ := ih (by omega)
    have hin : ∀ (b : Bool) (n : Int), b = p k → (inB (mk p k) n || (decide ((k : Int) ≤ n) && decide (n < (k : Int) + 1) && b)) = (decide (0 ≤ n) && decide (n < ((k + 1 : Nat) : Int)) && p n.toNat) := by
      intro b n hb
      rw [h3 n]
      by_cases hc : n = k
      · subst hc; simp [hb]
      · by_cases hn : n < k
        · have e1 : decide ((k : Int) ≤ n) = false := by simp; omega
          have e2 : decide (n < ((k + 1 : Nat) : Int)) = true := by rw [decide_eq_true_iff]; omega
          rw [e1, e2]; simp [hn]
        · have e1 : decide (n < (k : Int) + 1) = false := by simp; omega
          have e2 : decide (n < ((k + 1 : Nat) : Int)) = false := by simp; omega
          rw [e1, e2]; simp [hn]
    cases hp : p k
    · simp only [mk, hp, Bool.false_eq_true, if_false]
      refine ⟨h1, fun s hs => by have := h2 s hs; omega, fun n => ?_⟩
      rw [← hin false n hp.symm]; simp
    · simp only [mk, hp, if_true]
      rcases List.eq_nil_or_concat (mk p k) with hm | ⟨l, s, hm⟩
      · rw [hm] at h3 hin ⊢
        have e : put1 [] (k : Int) = [((k : Int), (k : Int) + 1)] := rfl
        rw [e]
        refine ⟨by rw [chk_cons]; exact ⟨by simp; omega, by simp; omega, rfl⟩, by simp, fun n => ?_⟩
        rw [← hin true n hp.symm]; simp [inB]
      · rw [List.concat_eq_append] at hm
        rw [hm] at h1 h2 h3 hin ⊢
        have hl := chk_last h1
        by_cases hs : s.2 = (k : Int)
        · have e : put1 (l ++ [s]) k = l ++ [(s.1, (k : Int) + 1)] := by unfold put1; simp [hs]
          rw [e]
          refine ⟨chk_append (chk_init h1) ⟨hl.1.1, by simp; omega, by simp; omega⟩ (by simp; omega) hl.2.2, ?_, fun n => ?_⟩
          · intro t ht
            rcases List.mem_append.1 ht with ht | ht
            · have := h2 t (by simp [ht]); omega
            · simp at ht; subst ht; simp
          · rw [← hin true n hp.symm, inB_append, inB_append, inB_cons, inB_cons, inB_nil]
            cases inB l n
            · have hx := hl.1.2.1
              rw [Bool.eq_iff_iff]; simp; omega
            · simp
        · have e : put1 (l ++ [s]) k = (l ++ [s]) ++ [((k : Int), (k : Int) + 1)] := by
            unfold put1; simp only [List.getLast?_append, List.getLast?_singleton, Option.some_or]; rw [if_neg hs]
          have hsk : s.2 < (k : Int) := by have := h2 s (by simp); omega
          rw [e]
          refine ⟨chk_append h1 ⟨by simp, by simp; omega, by simp; omega⟩ (by simp; omega) ?_, ?_, fun n => ?_⟩
          · intro t ht
            rcases List.mem_append.1 ht with ht | ht
            · have := hl.2.2 t ht; simp; omega
            · simp at ht; subst ht; simpa using hsk
          · intro t ht
            rcases List.mem_append.1 ht with ht | ht
            · have := h2 t ht; omega
            · simp at ht; subst ht; simp
          · rw [← hin true n hp.symm, inB_append, inB_cons, inB_nil]; simp

theorem make_chk (p : Nat → Bool) : spansChk (make p) = 0 := spansChk_of (mk_good p 32 (Nat.le_refl _)).1
theorem make_in (p : Nat → Bool) (n : Int) : inB (make p) n = (decide (0 ≤ n) && decide (n < 32) && p n.toNat) := (mk_good p 32 (Nat.le_refl _)).2.2 n
theorem make_in_nat (p : Nat → Bool) (n : Nat) (h : n < 32) : inB (make p) n = p n := by rw [make_in]; simp; omega

theorem make_ext {p q : Nat → Bool} (h : ∀ n, n < 32 → p n = q n) : make p = make q := by
  refine chk_unique (mk_good p 32 (Nat.le_refl _)).1 (mk_good q 32 (Nat.le_refl _)).1 fun n => ?_
  show inB (make p) n = inB (make q) n
  rw [make_in, make_in]
  by_cases hn : 0 ≤ n ∧ n < 32
  · rw [h n.toNat (by omega)]
  · have : (decide (0 ≤ n) && decide (n < 32)) = false := by simp; omega
    simp [this]
theorem make_inj {p q : Nat → Bool} (h : make p = make q) : ∀ n, n < 32 → p n = q n := fun n hn => by rw [← make_in_nat p n hn, h, make_in_nat q n hn]

/-- A list of spans in its form is what 'make' makes of its numbers. -/
theorem eq_make {l : Spans} (h : spansChk l = 0) : l = make (fun n => inB l n) := by
  have hc : chkFrom (-1) l = 0 := by unfold spansChk at h; split at h <;> simp_all
  refine chk_unique hc (mk_good _ 32 (Nat.le_refl _)).1 fun n => ?_
  show inB l n = inB (make _) n
  rw [make_in]
  by_cases hn : 0 ≤ n ∧ n < 32
  · rw [show ((n.toNat : Nat) : Int) = n from by omega]; simp [hn]
  · have : (decide (0 ≤ n) && decide (n < 32)) = false := by simp; omega
    rw [this]
    by_cases h0 : n < 0
    · rw [chk_low hc n (by omega)]; rfl
    · rw [chk_high hc n (by omega)]; rfl

theorem toldK_good (p : Nat → Bool) (k : Nat) (hk : k ≤ 32) : chkFrom (31 - k) (toldK p k) = 0 ∧ ∀ n : Int, inB (toldK p k) n = (decide (32 - k ≤ n) && decide (n < 32) && p n.toNat) := by
  induction k with
  | zero => refine ⟨rfl, fun n => ?_⟩; simp [toldK, inB_nil]; omega
  | succ k ih =>
    obtain ⟨h1, h3⟩ := ih (by omega)
    have e31 : ((31 - k : Nat) : Int) = 31 - k := by omega
    have hin : ∀ (b : Bool) (n : Int), b = p (31 - k) → ((decide (31 - (k : Int) ≤ n) && decide (n < 31 - (k : Int) + 1) && b) || inB (toldK p k) n) = (decide (32 - ((k + 1 : Nat) : Int) ≤ n) && decide (n < 32) && p n.toNat) := by
      intro b n hb
      rw [h3 n]
      by_cases hc : n = 31 - k
      · subst hc; rw [show (31 - (k : Int)).toNat = 31 - k from by omega, ← hb]
        have e1 : decide (32 - (k : Int) ≤ 31 - k) = false := by rw [decide_eq_false_iff_not]; omega
        have e2 : decide (32 - ((k + 1 : Nat) : Int) ≤ 31 - k) = true := by rw [decide_eq_true_iff]; omega
        have e3 : decide (31 - (k : Int) < 32) = true := by rw [decide_eq_true_iff]; omega
        have e4 : decide (31 - (k : Int) < 31 - k + 1) = true := by rw [decide_eq_true_iff]; omega
        rw [e1, e2, e3, e4]; simp
      · by_cases hn : n < 31 - k
        · have e1 : decide (31 - (k : Int) ≤ n) = false := by simp; omega
          have e2 : decide (32 - ((k + 1 : Nat) : Int) ≤ n) = false := by simp; omega
          have e3 : decide (32 - (k : Int) ≤ n) = false := by simp; omega
          rw [e1, e2, e3]; simp
        · have e1 : decide (n < 31 - (k : Int) + 1) = false := by simp; omega
          have e2 : decide (32 - ((k + 1 : Nat) : Int) ≤ n) = true := by rw [decide_eq_true_iff]; omega
          have e3 : decide (32 - (k : Int) ≤ n) = true := by rw [decide_eq_true_iff]; omega
          rw [e1, e2, e3]; simp
    cases hp : p (31 - k)
    · simp only [toldK, tstep, hp, Bool.false_eq_true, if_false]
      refine ⟨chk_mono h1 (by omega), fun n => ?_⟩
      rw [← hin false n hp.symm]; simp
    · simp only [toldK, tstep, hp, if_true]
      rcases hm : toldK p k with _ | ⟨s, r⟩
      · rw [hm] at hin
        simp only [e31]
        refine ⟨by rw [chk_cons]; exact ⟨by simp; omega, by simp; omega, rfl⟩, fun n => ?_⟩
        rw [← hin true n hp.symm]; simp [inB]
      · rw [hm] at h1 hin
        simp only [e31]
        rw [chk_cons] at h1
        by_cases hs : s.1 = 31 - (k : Int) + 1
        · rw [if_pos hs]
          refine ⟨by rw [chk_cons]; exact ⟨⟨by simp; omega, by simp; omega, h1.1.2.2⟩, by simp; omega, h1.2.2⟩, fun n => ?_⟩
          rw [← hin true n hp.symm, inB_cons, inB_cons]
          cases inB r n
          · rw [Bool.eq_iff_iff]; simp; omega
          · simp
        · rw [if_neg hs]
          refine ⟨by rw [chk_cons, chk_cons]; exact ⟨⟨by simp; omega, by simp; omega, by simp; omega⟩, by simp; omega, h1.1, by simp; omega, h1.2.2⟩, fun n => ?_⟩
          rw [← hin true n hp.symm, inB_cons]; simp

theorem told_eq (p : Nat → Bool) : told p = make p := by
  refine chk_unique (toldK_good p 32 (Nat.le_refl _)).1 (mk_good p 32 (Nat.le_refl _)).1 fun n => ?_
  show inB (toldK p 32) n = inB (make p) n
  rw [make_in, (toldK_good p 32 (Nat.le_refl _)).2 n]; simp

/-- How many numbers below k. -/
def cnt (p : Nat → Bool) : Nat → Int
  | 0 => 0
  | k + 1 => cnt p k + if p k then 1 else 0

theorem countFrom_append (l m : Spans) : countFrom (l ++ m) = countFrom l + countFrom m := by simp [countFrom, List.sum_append]
theorem countFrom_mk (p : Nat → Bool) (k : Nat) : countFrom (mk p k) = cnt p k := by
  induction k with
  | zero => rfl
  | succ k ih =>
    simp only [mk, cnt]
    cases hp : p k
    · simpa using ih
    · simp only [if_true]
      rw [← ih]
      rcases List.eq_nil_or_concat (mk p k) with hm | ⟨l, s, hm⟩
      · rw [hm]; simp [put1, countFrom]; omega
      · rw [List.concat_eq_append] at hm
        rw [hm]
        unfold put1
        simp only [List.getLast?_append, List.getLast?_singleton, Option.some_or]
        split
        · rename_i hs; simp only [List.dropLast_concat, countFrom_append]; simp [countFrom]; omega
        · simp only [countFrom_append]; simp [countFrom]; omega
theorem countFrom_make (p : Nat → Bool) : countFrom (make p) = cnt p 32 := countFrom_mk p 32
theorem cnt_add (p q r s : Nat → Bool) (k : Nat) (h : ∀ n, n < k → (if p n then (1 : Int) else 0) + (if q n then 1 else 0) = (if r n then 1 else 0) + (if s n then 1 else 0)) : cnt p k + cnt q k = cnt r k + cnt s k := by
  induction k with
  | zero => rfl
  | succ k ih => have := ih fun n hn => h n (by omega); have := h k (by omega); simp only [cnt]; omega
end Go.Proofs.Ytcanefjjpeoikaa
