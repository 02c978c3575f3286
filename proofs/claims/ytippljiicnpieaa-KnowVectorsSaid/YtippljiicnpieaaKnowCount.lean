/- How many dots a set has; sets of rows. No program in sight. -/
import Derived.Test.YtippljiicnpieaaKnowLaw1
namespace Go.Proofs.Ytippljiicnpieaa
open Go.RowKit
def cntUp (p : Nat → Bool) (K : Nat) : Nat := ((List.range K).filter fun c => decide (1 ≤ c) && p c).length
def cnt (p : Nat → Bool) : Nat := cntUp p 1001
theorem cntUp_succ (p : Nat → Bool) (K : Nat) (h : 1 ≤ K) : cntUp p (K + 1) = cntUp p K + if p K = true then 1 else 0 := by
  unfold cntUp
  rw [List.range_succ, List.filter_append, List.length_append]
  by_cases hp : p K = true
  · rw [if_pos hp, List.filter_cons_of_pos (by simp [hp, h]), List.filter_nil, List.length_singleton]
  · rw [if_neg hp, List.filter_cons_of_neg (by simp [hp]), List.filter_nil, List.length_nil]
theorem cntUp_one (p : Nat → Bool) : cntUp p 1 = 0 := by simp [cntUp]
theorem cnt_all (p : Nat → Bool) (n : Nat) (h : ∀ c, 0 < c → c ≤ n → p c = true) : cntUp p (n + 1) = n := by
  induction n with
  | zero => exact cntUp_one p
  | succ n ih => rw [cntUp_succ _ _ (by omega), ih (fun c h0 h1 => h c h0 (by omega)), if_pos (h (n + 1) (by omega) (by omega))]
theorem restUp_zero (p : Nat → Bool) (n K : Nat) (h : K ≤ n + 2) : restUp p n K = [] := by
  unfold restUp
  rw [List.filter_eq_nil_iff]
  intro a ha
  have := List.mem_range.1 ha
  simp only [Bool.and_eq_true, decide_eq_true_eq, not_and]
  intro h; omega
theorem cnt_split (p : Nat → Bool) (n : Nat) (h : ∀ c, 0 < c → c ≤ n → p c = true) (h3 : n < 1000 → p (n + 1) = false) : ∀ d, n + d ≤ 1000 → cntUp p (n + d + 1) = n + (restUp p n (n + d + 1)).length
  | 0, _ => by rw [Nat.add_zero, cnt_all p n h, restUp_zero _ _ _ (by omega)]; rfl
  | d + 1, hd => by
    have ih := cnt_split p n h h3 d (by omega)
    rw [show n + (d + 1) + 1 = (n + d + 1) + 1 by omega, cntUp_succ _ _ (by omega), ih]
    by_cases e : d = 0
    · subst e
      rw [if_neg (by rw [Nat.add_zero, h3 (by omega)]; decide), restUp_zero _ _ _ (by omega), restUp_zero _ _ _ (by omega)]
      simp
    · rw [restUp_succ p n (n + d + 1) (by omega)]
      by_cases hp : p (n + d + 1) = true
      · rw [if_pos hp, if_pos hp, List.length_append, List.length_singleton]; omega
      · rw [if_neg hp, if_neg hp]; omega
theorem cnt_eq (p : Nat → Bool) : cnt p = vecOf p + (restOf p).length := by
  obtain ⟨-, r2, r3, r4⟩ := runN_spec p 1000 0
  rw [Nat.zero_add] at r2 r4
  have e2 : vecOf p ≤ 1000 := r2
  have := cnt_split p (vecOf p) r3 r4 (1000 - vecOf p) (by omega)
  rw [show vecOf p + (1000 - vecOf p) + 1 = 1001 by omega] at this
  unfold cnt
  rw [this]
  rfl
theorem cnt_incl (p q : Nat → Bool) : cnt p + cnt q = cnt (fun c => p c || q c) + cnt (fun c => p c && q c) := by
  unfold cnt
  have key : ∀ K, 1 ≤ K → cntUp p K + cntUp q K = cntUp (fun c => p c || q c) K + cntUp (fun c => p c && q c) K := by
    intro K hK
    induction K with
    | zero => omega
    | succ K ih =>
      by_cases h0 : K = 0
      · subst h0; simp [cntUp_one]
      · rw [cntUp_succ _ _ (by omega), cntUp_succ _ _ (by omega), cntUp_succ _ _ (by omega), cntUp_succ _ _ (by omega)]
        have := ih (by omega)
        cases hp : p K <;> cases hq : q K <;> simp <;> omega
  exact key 1001 (by decide)
theorem cnt_single (c : Nat) (h1 : 1 ≤ c) (h2 : c ≤ 1000) : cnt (fun x => decide (x = c)) = 1 := by
  have key : ∀ K, 1 ≤ K → cntUp (fun x => decide (x = c)) K = if c < K then 1 else 0 := by
    intro K hK
    induction K with
    | zero => omega
    | succ K ih =>
      by_cases h0 : K = 0
      · subst h0; rw [cntUp_one, if_neg (by omega)]
      · rw [cntUp_succ _ _ (by omega), ih (by omega)]
        simp only [decide_eq_true_eq]
        by_cases h3 : c < K
        · rw [if_pos h3, if_neg (by omega), if_pos (by omega)]
        · rw [if_neg h3]
          by_cases h4 : K = c
          · rw [if_pos h4, if_pos (by omega)]
          · rw [if_neg h4, if_neg (by omega)]
  have := key 1001 (by decide)
  rw [if_pos (by omega)] at this
  exact this
theorem cntUp_congr {p q : Nat → Bool} (K : Nat) (h : ∀ c, 1 ≤ c → c < K → p c = q c) : cntUp p K = cntUp q K := by
  unfold cntUp
  rw [List.filter_congr fun c hc => ?_]
  have := List.mem_range.1 hc
  by_cases h1 : 1 ≤ c
  · rw [h c h1 this]
  · simp [h1]
theorem len_split {α : Type} (l : List α) (q : α → Bool) : l.length = (l.filter q).length + (l.filter fun c => !q c).length := by
  induction l with
  | nil => rfl
  | cons a l ih =>
    by_cases h : q a = true
    · rw [List.filter_cons_of_pos h, List.filter_cons_of_neg (by simp [h])]; simp only [List.length_cons]; omega
    · rw [List.filter_cons_of_neg h, List.filter_cons_of_pos (by simp [h])]; simp only [List.length_cons]; omega
theorem sorted_one {l : List Nat} {c0 : Nat} (ho : l.Pairwise (· < ·)) (ha : ∀ c ∈ l, c = c0) : l.length ≤ 1 := by
  match l, ho, ha with
  | [], _, _ => simp
  | [_], _, _ => simp
  | a :: b :: t, ho, ha =>
    have h1 := ha a (by simp)
    have h2 := ha b (by simp)
    have := (List.pairwise_cons.1 ho).1 b (by simp)
    omega
theorem cnt_congr {p q : Nat → Bool} (h : ∀ c, 1 ≤ c → c ≤ 1000 → p c = q c) : cnt p = cnt q := by
  exact cntUp_congr 1001 fun c h1 h2 => h c h1 (by omega)
def cardD (P : DPred) : Nat := cnt (fun (c : Nat) => P 0 c) + cnt (fun (c : Nat) => P 1 c) + cnt (fun (c : Nat) => P 2 c) + cnt (fun (c : Nat) => P 3 c) + cnt (fun (c : Nat) => P 4 c)
theorem trimZ_sum (v : List Int) : (trimZ v).sum = v.sum := by
  refine snoc_ind (p := fun v => (trimZ v).sum = v.sum) (by simp [trimZ]) ?_ v
  intro l x ih
  rw [trimZ_snoc]
  by_cases h : x = 0
  · rw [if_pos h, ih, h]; simp
  · rw [if_neg h]
theorem count_form (P : DPred) : ((formK P).more.length : Int) + (formK P).vec.sum = (cardD P : Nat) := by
  rw [formK_more, formK_vec, trimZ_sum]
  unfold formM formV cardD
  have e : List.range 5 = [0, 1, 2, 3, 4] := rfl
  rw [e]
  simp only [List.flatMap_cons, List.flatMap_nil, List.length_append, List.length_nil, List.length_map, List.map_cons, List.map_nil, List.sum_cons, List.sum_nil]
  rw [cnt_eq, cnt_eq, cnt_eq, cnt_eq, cnt_eq]
  push_cast
  generalize ((restOf fun (c : Nat) => P 0 c).length : Int) = r0
  generalize ((restOf fun (c : Nat) => P 1 c).length : Int) = r1
  generalize ((restOf fun (c : Nat) => P 2 c).length : Int) = r2
  generalize ((restOf fun (c : Nat) => P 3 c).length : Int) = r3
  generalize ((restOf fun (c : Nat) => P 4 c).length : Int) = r4
  generalize ((vecOf fun (c : Nat) => P 0 c) : Int) = v0
  generalize ((vecOf fun (c : Nat) => P 1 c) : Int) = v1
  generalize ((vecOf fun (c : Nat) => P 2 c) : Int) = v2
  generalize ((vecOf fun (c : Nat) => P 3 c) : Int) = v3
  generalize ((vecOf fun (c : Nat) => P 4 c) : Int) = v4
  omega
theorem card_congr {P Q : DPred} (h : DEq P Q) : cardD P = cardD Q := by
  have key : ∀ s : Int, 0 ≤ s → s < 5 → cnt (fun (c : Nat) => P s c) = cnt (fun (c : Nat) => Q s c) := fun s h0 h5 => cnt_congr fun c h1 h2 => h s c h0 h5 (by omega) (by omega)
  unfold cardD
  rw [key 0 (by decide) (by decide), key 1 (by decide) (by decide), key 2 (by decide) (by decide), key 3 (by decide) (by decide), key 4 (by decide) (by decide)]
theorem card_incl (P Q : DPred) : cardD P + cardD Q = cardD (orK P Q) + cardD (andK P Q) := by
  have key : ∀ s : Int, cnt (fun (c : Nat) => P s c) + cnt (fun (c : Nat) => Q s c) = cnt (fun (c : Nat) => orK P Q s c) + cnt (fun (c : Nat) => andK P Q s c) := fun s => cnt_incl _ _
  have k0 := key 0; have k1 := key 1; have k2 := key 2; have k3 := key 3; have k4 := key 4
  unfold cardD
  omega
theorem card_add (P : DPred) {s c : Int} (h0 : 0 ≤ s) (h5 : s < 5) (h1 : 1 ≤ c) (h2 : c ≤ 1000) : cardD (addP P s c) = cardD P + if P s c = true then 0 else 1 := by
  obtain ⟨c, rfl⟩ := Int.eq_ofNat_of_zero_le (show 0 ≤ c by omega)
  have hin := card_incl P (fun s' c' => decide ((s', c') = (s, (c : Int))))
  have e0 : cardD (orK P fun s' c' => decide ((s', c') = (s, (c : Int)))) = cardD (addP P s c) := rfl
  have one : ∀ s' : Int, cnt (fun (x : Nat) => decide ((s', (x : Int)) = (s, (c : Int)))) = if s' = s then 1 else 0 := by
    intro s'
    by_cases h : s' = s
    · subst h
      rw [if_pos rfl, ← cnt_single c (by omega) (by omega)]
      refine cnt_congr fun x _ _ => ?_
      rw [decide_eq_decide]; simp only [Prod.mk.injEq, true_and]; omega
    · rw [if_neg h, show (fun (x : Nat) => decide ((s', (x : Int)) = (s, (c : Int)))) = fun _ => false by funext x; rw [decide_eq_false_iff_not]; intro he; exact h (Prod.mk.inj he).1]
      unfold cnt cntUp; simp
  have e1 : cardD (fun s' c' => decide ((s', c') = (s, (c : Int)))) = 1 := by
    unfold cardD
    rw [one 0, one 1, one 2, one 3, one 4]
    have : s = 0 ∨ s = 1 ∨ s = 2 ∨ s = 3 ∨ s = 4 := by omega
    rcases this with rfl | rfl | rfl | rfl | rfl <;> decide
  have e2 : cardD (andK P fun s' c' => decide ((s', c') = (s, (c : Int)))) = if P s c = true then 1 else 0 := by
    by_cases hp : P s c = true
    · rw [if_pos hp, ← e1]
      refine card_congr fun s' c' _ _ _ _ => ?_
      simp only [andK]
      by_cases h : (s', c') = (s, (c : Int))
      · simp only [Prod.mk.injEq] at h; rw [h.1, h.2, hp]; simp
      · simp [h]
    · rw [if_neg hp]
      have : (andK P fun s' c' => decide ((s', c') = (s, (c : Int)))) = fun _ _ => false := by
        funext s' c'
        simp only [andK]
        by_cases h : (s', c') = (s, (c : Int))
        · simp only [Prod.mk.injEq] at h; rw [h.1, h.2]; simp at hp; simp [hp]
        · simp [h]
      rw [this]; unfold cardD cnt cntUp; simp
  rw [e0, e1, e2] at hin
  by_cases hp : P s c = true
  · rw [if_pos hp] at hin ⊢; omega
  · rw [if_neg hp] at hin ⊢; omega
/-- Small sets, and one dot more. -/
def Sz (P : DPred) : Prop := ∃ c0 : Int, ∀ s c : Int, 0 ≤ s → s < 5 → 1 ≤ c → c ≤ 1000 → P s c = true → c ≤ 12 ∨ c = c0
theorem Sm.sz {P : DPred} (h : Sm P) : Sz P := ⟨0, fun s c h0 h5 h1 h2 hp => .inl (h s c h0 h5 h1 h2 hp)⟩
theorem Sm.add {P : DPred} (h : Sm P) (s c : Int) : Sz (addP P s c) := ⟨c, fun s' c' h0 h5 h1 h2 hp => by
  simp only [addP, Bool.or_eq_true, decide_eq_true_eq, Prod.mk.injEq] at hp
  exact hp.elim (fun hp => .inl (h s' c' h0 h5 h1 h2 hp)) fun hp => .inr hp.2⟩
theorem restOf_sz (p : Nat → Bool) (c0 : Nat) (h : ∀ c, 1 ≤ c → c ≤ 1000 → p c = true → c ≤ 12 ∨ c = c0) : (restOf p).length ≤ 12 := by
  have hs : (restOf p).length ≤ ((restOf p).filter fun c => decide (c ≤ 12)).length + ((restOf p).filter fun c => !decide (c ≤ 12)).length := by
    exact Nat.le_of_eq (len_split _ _)
  have h1 : ((restOf p).filter fun c => decide (c ≤ 12)).length ≤ 11 := by
    have hsub : ((restOf p).filter fun c => decide (c ≤ 12)).Sublist (List.range' 2 11) := by
      have e : List.range 1001 = [0, 1] ++ (List.range' 2 11 ++ List.range' 13 988) := by
        have h1 := List.range'_append_1 (s := 2) (m := 11) (n := 988)
        have h2 := List.range'_append_1 (s := 0) (m := 2) (n := 999)
        rw [List.range_eq_range']
        rw [show List.range' 13 988 = List.range' (2 + 11) 988 from rfl, h1]
        exact h2.symm
      unfold restOf
      rw [List.filter_filter, e, List.filter_append, List.filter_append]
      have h1 : [0, 1].filter (fun c => decide (c ≤ 12) && (decide (vecOf p + 2 ≤ c) && p c)) = [] := by
        rw [List.filter_eq_nil_iff]
        intro a ha
        simp only [List.mem_cons, List.not_mem_nil, or_false] at ha
        simp only [Bool.and_eq_true, decide_eq_true_eq]
        omega
      have h2 : (List.range' 13 988).filter (fun c => decide (c ≤ 12) && (decide (vecOf p + 2 ≤ c) && p c)) = [] := by
        rw [List.filter_eq_nil_iff]
        intro a ha
        obtain ⟨x, hx, rfl⟩ := List.mem_range'.1 ha
        simp only [Bool.and_eq_true, decide_eq_true_eq]
        omega
      rw [h1, h2, List.nil_append, List.append_nil]
      exact List.filter_sublist
    have := hsub.length_le
    rw [List.length_range'] at this
    exact this
  have h2 : ((restOf p).filter fun c => !decide (c ≤ 12)).length ≤ 1 := by
    have ho : ((restOf p).filter fun c => !decide (c ≤ 12)).Pairwise (· < ·) := (restOf_sorted p).filter _
    have ha : ∀ c ∈ (restOf p).filter (fun c => !decide (c ≤ 12)), c = c0 := by
      intro c hc
      rw [List.mem_filter] at hc
      obtain ⟨hc1, hc2⟩ := hc
      simp only [restOf, List.mem_filter, List.mem_range, Bool.and_eq_true, decide_eq_true_eq] at hc1
      simp only [Bool.not_eq_true', decide_eq_false_iff_not] at hc2
      exact (h c (by omega) (by omega) hc1.2.2).resolve_left hc2
    exact sorted_one ho ha
  omega
theorem sum5c {a b c d e : Nat} (h0 : a ≤ 12) (h1 : b ≤ 12) (h2 : c ≤ 12) (h3 : d ≤ 12) (h4 : e ≤ 12) : a + (b + (c + (d + (e + 0)))) ≤ 60 := by omega
theorem sz_len {P : DPred} (h : Sz P) : (formK P).more.length ≤ 60 := by
  obtain ⟨c0, h⟩ := h
  rw [formK_more]
  unfold formM
  have e : List.range 5 = [0, 1, 2, 3, 4] := rfl
  rw [e]
  simp only [List.flatMap_cons, List.flatMap_nil, List.length_append, List.length_nil, List.length_map]
  have r : ∀ s : Nat, s < 5 → (restOf fun (c : Nat) => P s c).length ≤ 12 := fun s hs => restOf_sz _ c0.toNat fun c h1 h2 hp => by have := h s c (by omega) (by omega) (by omega) (by omega) hp; omega
  exact sum5c (r 0 (by decide)) (r 1 (by decide)) (r 2 (by decide)) (r 3 (by decide)) (r 4 (by decide))
theorem chk_sz {P : DPred} (h : Sz P) : knChk (formK P) = 0 := knChk_zero.2 ⟨formK_ok P, sz_len h⟩
theorem add_form (P : DPred) (s c : Int) : formK (addP (knIn (formK P)) s c) = formK (addP P s c) :=
  formK_congr fun s' c' h0 h5 h1 h2 => by simp only [addP, formK_in P s' c' h0 h5 h1 h2]
/-- The dots that rows name. -/
def dotsP (l : List (List Int)) : DPred := fun s c => decide ((s.toNat, c.toNat) ∈ l.filterMap rowDot)
theorem dotsP_nil : dotsP [] = fun _ _ => false := by funext s c; simp [dotsP]
theorem form_none : formK (fun _ _ => false) = ⟨[], []⟩ := by
  refine (formK_uniq (vecKn_ok (by decide) (by simp) (by simp)) fun s c _ _ h1 _ => ?_).symm
  show (decide (c ≤ vecAt [] s) || decide ((s, c) ∈ ([] : Dots))) = false
  simp [vecAt]; omega
theorem dotsP_sm (l : List (List Int)) : Sm (dotsP l) := by
  intro s c h0 h5 h1 h2 hp
  unfold dotsP at hp
  rw [decide_eq_true_eq] at hp
  obtain ⟨x, -, hx⟩ := List.mem_filterMap.1 hp
  have := rowDot_bd hx
  simp only at this
  omega
theorem setP_dots (ls : List (List Int)) : DEq (setP ls) (dotsP (ls.take 40)) := fun s c h0 h5 h1 h2 => by rw [setP_mem ls h0 h1 h2]; rfl
theorem dotsP_none {l : List (List Int)} {x : List Int} (h : rowDot x = none) : dotsP (l ++ [x]) = dotsP l := by
  funext s c; unfold dotsP; rw [List.filterMap_append]; simp [h]
theorem dotsP_some {l : List (List Int)} {x : List Int} {s c : Nat} (h : rowDot x = some (s, c)) : DEq (addP (dotsP l) s c) (dotsP (l ++ [x])) := by
  intro s' c' h0 h5 h1 h2
  unfold dotsP addP
  rw [List.filterMap_append, Bool.eq_iff_iff]
  simp only [List.filterMap_cons, h, List.filterMap_nil, Bool.or_eq_true, decide_eq_true_eq, List.mem_append, List.mem_singleton, Prod.mk.injEq]
  constructor
  · rintro (h | ⟨rfl, rfl⟩)
    · exact .inl h
    · exact .inr ⟨by simp, by simp⟩
  · rintro (h | ⟨e1, e2⟩)
    · exact .inl h
    · exact .inr ⟨by omega, by omega⟩
/-- The rows, turned. -/
def rotR (L : List (List Int)) (t i : Nat) : List (List Int) := (List.range i).map fun j => L.getD ((j + t) % L.length) []
theorem rotR_succ (L : List (List Int)) (t i : Nat) : rotR L t (i + 1) = rotR L t i ++ [L.getD ((i + t) % L.length) []] := by simp [rotR, List.range_succ]
theorem rotR_dots (L : List (List Int)) (t : Nat) (ht : L.length = 0 ∨ t < L.length) : DEq (dotsP (rotR L t L.length)) (dotsP L) := by
  intro s c _ _ _ _
  unfold dotsP
  rw [decide_eq_decide]
  have key : ∀ x, x ∈ rotR L t L.length ↔ x ∈ L := by
    intro x
    unfold rotR
    simp only [List.mem_map, List.mem_range]
    constructor
    · rintro ⟨j, hj, rfl⟩
      have hm : (j + t) % L.length < L.length := Nat.mod_lt _ (by omega)
      rw [List.getD_eq_getElem?_getD, List.getElem?_eq_getElem hm]
      exact List.getElem_mem hm
    · intro hx
      obtain ⟨r, hr, rfl⟩ := List.getElem_of_mem hx
      have ht' : t < L.length := ht.resolve_left (by omega)
      refine ⟨(r + L.length - t) % L.length, Nat.mod_lt _ (by omega), ?_⟩
      have e : ((r + L.length - t) % L.length + t) % L.length = r := by
        rw [Nat.mod_add_mod, show r + L.length - t + t = r + L.length by omega, Nat.add_mod_right, Nat.mod_eq_of_lt hr]
      rw [e, List.getD_eq_getElem?_getD, List.getElem?_eq_getElem hr]; rfl
  simp only [List.mem_filterMap, key]
end Go.Proofs.Ytippljiicnpieaa
