/- The form of a set of dots that is told by a predicate. No program in sight. -/
import Derived.Test.YtippljiicnpieaaKnowMade
namespace Go.Proofs.Ytippljiicnpieaa
open Go.RowKit
abbrev DPred := Int → Int → Bool
def runN (p : Nat → Bool) : Nat → Nat → Nat
  | 0, n => n
  | f + 1, n => if p (n + 1) then runN p f (n + 1) else n
theorem runN_spec (p : Nat → Bool) (f n : Nat) : n ≤ runN p f n ∧ runN p f n ≤ n + f ∧ (∀ c, n < c → c ≤ runN p f n → p c = true) ∧ (runN p f n < n + f → p (runN p f n + 1) = false) := by
  induction f generalizing n with
  | zero => exact ⟨Nat.le_refl _, Nat.le_refl _, fun c h1 h2 => by simp [runN] at h2; omega, fun h => by simp [runN] at h⟩
  | succ f ih =>
    simp only [runN]
    split
    · rename_i h
      obtain ⟨h1, h2, h3, h4⟩ := ih (n + 1)
      refine ⟨by omega, by omega, fun c hc1 hc2 => ?_, fun hl => h4 (by omega)⟩
      by_cases e : c = n + 1
      · rw [e]; exact h
      · exact h3 c (by omega) hc2
    · rename_i h
      exact ⟨Nat.le_refl _, by omega, fun c h1 h2 => by omega, fun _ => by simpa using h⟩
def vecOf (p : Nat → Bool) : Nat := runN p 1000 0
theorem vecOf_le (p : Nat → Bool) : vecOf p ≤ 1000 := by have := (runN_spec p 1000 0).2.1; simpa [vecOf] using this
def restOf (p : Nat → Bool) : List Nat := (List.range 1001).filter fun c => decide (vecOf p + 2 ≤ c) && p c
def formV (P : DPred) : List Int := (List.range 5).map fun (s : Nat) => (vecOf (fun (c : Nat) => P s c) : Int)
def formM (P : DPred) : Dots := (List.range 5).flatMap fun (s : Nat) => (restOf (fun (c : Nat) => P s c)).map fun (c : Nat) => ((s : Int), (c : Int))
def formK (P : DPred) : Kn := ⟨trimZ (formV P), formM P⟩
theorem formK_more (P : DPred) : (formK P).more = formM P := by unfold formK; simp only
theorem formK_vec (P : DPred) : (formK P).vec = trimZ (formV P) := by unfold formK; simp only
theorem formV_at (P : DPred) (s : Nat) (h : s < 5) : vecAt (formV P) s = (vecOf (fun (c : Nat) => P s c) : Int) := by
  unfold vecAt formV
  rw [Int.toNat_natCast, List.getD_eq_getElem?_getD, List.getElem?_map, List.getElem?_range h]; rfl
theorem formM_mem (P : DPred) (d : Int × Int) : d ∈ formM P ↔ ∃ s c : Nat, s < 5 ∧ c ≤ 1000 ∧ d = ((s : Int), (c : Int)) ∧ vecOf (fun c => P s c) + 2 ≤ c ∧ P s c = true := by
  simp only [formM, restOf, List.mem_flatMap, List.mem_range, List.mem_map, List.mem_filter, Bool.and_eq_true, decide_eq_true_eq]
  constructor
  · rintro ⟨s, hs, c, ⟨hc, h1, h2⟩, rfl⟩
    exact ⟨s, c, hs, by omega, rfl, h1, h2⟩
  · rintro ⟨s, c, hs, hc, rfl, h1, h2⟩
    exact ⟨s, hs, c, ⟨by omega, h1, h2⟩, rfl⟩
theorem restOf_sorted (p : Nat → Bool) : (restOf p).Pairwise (· < ·) := List.Pairwise.filter _ List.pairwise_lt_range
theorem dots_aux {n s c : Nat} (hs : s < 5) (hc : c ≤ 1000) (h1 : n + 2 ≤ c) : dotOk ((s : Int), (c : Int)) = true ∧ (n : Int) + 2 ≤ (c : Int) := ⟨dotOk_iff.2 ⟨by simp only; omega, by simp only; omega⟩, by omega⟩
theorem form_aux {n c : Nat} {q : Nat → Bool} {m : Prop} (r3 : ∀ x : Nat, 0 < x → x ≤ n → q x = true) (r4 : n < 1000 → q (n + 1) = false) (hc : 0 < c) (h1000 : c ≤ 1000) (key : n + 2 ≤ c → q c = true → m) (back : m → q c = true) : (c ≤ n ∨ m) ↔ q c = true := by
  constructor
  · rintro (h | h)
    · exact r3 c hc h
    · exact back h
  · intro hp
    by_cases h : c ≤ n
    · exact .inl h
    · right
      by_cases h2 : c = n + 1
      · exfalso
        have := r4 (by omega)
        rw [← h2, hp] at this; exact absurd this (by decide)
      · exact key (by omega) hp
theorem sum5 {a b c d e : Nat} (h0 : a ≤ 1001) (h1 : b ≤ 1001) (h2 : c ≤ 1001) (h3 : d ≤ 1001) (h4 : e ≤ 1001) : a + (b + (c + (d + (e + 0)))) ≤ 5005 := by omega
theorem formK_ok (P : DPred) : KnOk (formK P) := by
  obtain ⟨t1, t2⟩ := trimZ_sub (formV P)
  refine ⟨?_, ?_, by rw [formK_vec]; exact trimZ_last _, ?_, ?_⟩
  · have : (formV P).length = 5 := by simp [formV]
    rw [formK_vec]; omega
  · intro n hn
    rw [formK_vec] at hn
    have := t2 n hn
    simp only [formV, List.mem_map, List.mem_range] at this
    obtain ⟨s, -, rfl⟩ := this
    exact ⟨Int.natCast_nonneg _, Int.ofNat_le.2 (vecOf_le _)⟩
  · intro d hd
    rw [formK_more] at hd
    obtain ⟨s, c, hs, hc, rfl, h1, -⟩ := (formM_mem P d).1 hd
    rw [formK_vec, trimZ_vecAt, formV_at P s hs]
    exact dots_aux hs hc h1
  · rw [formK_more]
    unfold formM
    rw [List.pairwise_flatMap]
    refine ⟨fun s _ => ?_, ?_⟩
    · rw [List.pairwise_map]
      refine (restOf_sorted _).imp fun h => ?_
      right; exact ⟨rfl, by simp only; omega⟩
    · refine List.pairwise_lt_range.imp ?_
      intro a b h x hx y hy
      simp only [List.mem_map] at hx hy
      obtain ⟨_, -, rfl⟩ := hx
      obtain ⟨_, -, rfl⟩ := hy
      left; simp only; omega
theorem formK_in (P : DPred) (s c : Int) (h0 : 0 ≤ s) (h5 : s < 5) (h1 : 1 ≤ c) (h1000 : c ≤ 1000) : knIn (formK P) s c = P s c := by
  obtain ⟨s, rfl⟩ := Int.eq_ofNat_of_zero_le h0
  obtain ⟨c, rfl⟩ := Int.eq_ofNat_of_zero_le (show 0 ≤ c by omega)
  have hs : s < 5 := by omega
  have hc0 : 0 < c := by omega
  have hc1 : c ≤ 1000 := by omega
  have r3 : ∀ x : Nat, 0 < x → x ≤ vecOf (fun c => P s c) → P s x = true := (runN_spec (fun c => P s c) 1000 0).2.2.1
  have r4 : vecOf (fun c => P s c) < 1000 → P s ((vecOf (fun c => P s c) + 1 : Nat) : Int) = false := fun h => (runN_spec (fun c => P s c) 1000 0).2.2.2 (by rw [Nat.zero_add]; exact h)
  have e : knIn (formK P) (s : Int) (c : Int) = (decide (c ≤ vecOf (fun c => P s c)) || decide (((s : Int), (c : Int)) ∈ formM P)) := by
    unfold knIn
    rw [formK_more, formK_vec, trimZ_vecAt, formV_at P s hs]
    rw [show decide ((c : Int) ≤ (vecOf (fun c => P s c) : Int)) = decide (c ≤ vecOf (fun c => P s c)) from by simp only [Int.ofNat_le]]
  rw [e, Bool.eq_iff_iff]
  simp only [Bool.or_eq_true, decide_eq_true_eq]
  have hm := formM_mem P ((s : Int), (c : Int))
  refine form_aux (q := fun c => P s c) r3 r4 hc0 hc1 (fun h hp => hm.2 ⟨s, c, hs, hc1, rfl, h, hp⟩) fun h => ?_
  obtain ⟨s', c', -, -, he, -, hp⟩ := hm.1 h
  simp only [Prod.mk.injEq] at he
  obtain ⟨e1, e2⟩ := he
  obtain rfl : s = s' := Int.ofNat_inj.1 e1
  obtain rfl : c = c' := Int.ofNat_inj.1 e2
  exact hp
/-- Equal on all dots. -/
def DEq (P Q : DPred) : Prop := ∀ s c : Int, 0 ≤ s → s < 5 → 1 ≤ c → c ≤ 1000 → P s c = Q s c
theorem formK_uniq {P : DPred} {k : Kn} (h : KnOk k) (hp : DEq (knIn k) P) : k = formK P :=
  kn_ext h (formK_ok P) fun s c h0 h5 h1 h2 => by rw [formK_in P s c h0 h5 h1 h2]; exact hp s c h0 h5 h1 h2
theorem formK_congr {P Q : DPred} (h : DEq P Q) : formK P = formK Q :=
  formK_uniq (formK_ok P) fun s c h0 h5 h1 h2 => by rw [formK_in P s c h0 h5 h1 h2]; exact h s c h0 h5 h1 h2
theorem formK_self {k : Kn} (h : KnOk k) : formK (knIn k) = k := (formK_uniq h fun _ _ _ _ _ _ => rfl).symm
theorem restOf_len (p : Nat → Bool) : (restOf p).length ≤ 1001 := by
  have := List.length_filter_le (fun c => decide (vecOf p + 2 ≤ c) && p c) (List.range 1001)
  rw [List.length_range] at this
  exact this
theorem formM_len (P : DPred) : (formK P).more.length ≤ 5005 := by
  rw [formK_more]
  unfold formM
  have e : List.range 5 = [0, 1, 2, 3, 4] := rfl
  rw [e]
  simp only [List.flatMap_cons, List.flatMap_nil, List.length_append, List.length_nil, List.length_map]
  exact sum5 (restOf_len _) (restOf_len _) (restOf_len _) (restOf_len _) (restOf_len _)
/-- The error that a set is too large. -/
def kE (k : Kn) : Int := if 60 < k.more.length then 2 else 0
end Go.Proofs.Ytippljiicnpieaa
