/- know.Made, plainly: dots in order, one by one, onto a vector. No program in sight. -/
import Derived.Test.YtippljiicnpieaaKnowPure
namespace Go.Proofs.Ytippljiicnpieaa
open Go.RowKit
def madeStep (st : List Int × Dots) (d : Int × Int) : List Int × Dots :=
  if d.2 ≤ vecAt st.1 d.1 then st
  else if d.2 = vecAt st.1 d.1 + 1 then (st.1.set d.1.toNat (vecAt st.1 d.1 + 1), st.2)
  else if st.2.getLast? = some d then st else (st.1, st.2 ++ [d])
def madeAll (v : List Int) (ds : Dots) : List Int × Dots := ds.foldl madeStep (v, [])
theorem madeAll_snoc (v : List Int) (ds : Dots) (d : Int × Int) : madeAll v (ds ++ [d]) = madeStep (madeAll v ds) d := by simp [madeAll]
structure MadeSt (v : List Int) (more : Dots) (v0 : List Int) (P : Dots) : Prop where
  len : v.length = 5
  bd : ∀ n ∈ v, 0 ≤ n ∧ n ≤ 1000
  dots : ∀ d ∈ more, dotOk d = true ∧ vecAt v d.1 + 2 ≤ d.2
  ord : more.Pairwise dlt
  sub : ∀ d ∈ more, d ∈ P
  mlen : more.length ≤ P.length
  mem : ∀ s c : Int, 0 ≤ s → s < 5 → 1 ≤ c → ((c ≤ vecAt v s ∨ (s, c) ∈ more) ↔ (c ≤ vecAt v0 s ∨ (s, c) ∈ P))
theorem MadeSt.zero {v : List Int} (h : v.length = 5) (hb : ∀ n ∈ v, 0 ≤ n ∧ n ≤ 1000) : MadeSt v [] v [] :=
  ⟨h, hb, by simp, List.Pairwise.nil, by simp, by simp, fun s c _ _ _ => by simp⟩
theorem dotOk_iff {d : Int × Int} : dotOk d = true ↔ (0 ≤ d.1 ∧ d.1 < 5) ∧ 1 ≤ d.2 ∧ d.2 ≤ 1000 := by
  simp only [dotOk, Bool.and_eq_true, decide_eq_true_eq]; omega
theorem vecAt_set {v : List Int} {s r x : Int} (h0 : 0 ≤ s) (hl : s < v.length) (hr : 0 ≤ r) : vecAt (v.set s.toNat x) r = if r = s then x else vecAt v r := by
  unfold vecAt
  rw [List.getD_eq_getElem?_getD, List.getD_eq_getElem?_getD, List.getElem?_set]
  by_cases e : r = s
  · subst e; rw [if_pos rfl, if_pos rfl, if_pos (by omega)]; rfl
  · rw [if_neg (by omega), if_neg e]
theorem MadeSt.step {v v0 : List Int} {more P : Dots} {d : Int × Int} (h : MadeSt v more v0 P) (hd : dotOk d = true) (hs : ∀ x ∈ P, ¬ dlt d x) : MadeSt (madeStep (v, more) d).1 (madeStep (v, more) d).2 v0 (P ++ [d]) := by
  have hd' := dotOk_iff.1 hd
  have hl := h.len
  have tail : ∀ {v' : List Int} {more' : Dots}, (∀ s c : Int, 0 ≤ s → s < 5 → 1 ≤ c → ((c ≤ vecAt v' s ∨ (s, c) ∈ more') ↔ ((c ≤ vecAt v s ∨ (s, c) ∈ more) ∨ (s, c) = d))) →
      ∀ s c : Int, 0 ≤ s → s < 5 → 1 ≤ c → ((c ≤ vecAt v' s ∨ (s, c) ∈ more') ↔ (c ≤ vecAt v0 s ∨ (s, c) ∈ P ++ [d])) := by
    intro v' more' hx s c h0 h5 h1
    rw [hx s c h0 h5 h1, h.mem s c h0 h5 h1, List.mem_append, List.mem_singleton, or_assoc]
  unfold madeStep
  simp only
  by_cases h1 : d.2 ≤ vecAt v d.1
  · rw [if_pos h1]
    refine ⟨hl, h.bd, h.dots, h.ord, fun x hx => List.mem_append_left _ (h.sub x hx), by have := h.mlen; simp; omega, tail fun s c h0 h5 hc => ?_⟩
    constructor
    · exact .inl
    · rintro (hx | hx)
      · exact hx
      · subst hx; exact .inl h1
  rw [if_neg h1]
  by_cases h2 : d.2 = vecAt v d.1 + 1
  · rw [if_pos h2]
    have hva : ∀ r : Int, 0 ≤ r → vecAt (v.set d.1.toNat (vecAt v d.1 + 1)) r = if r = d.1 then vecAt v d.1 + 1 else vecAt v r := fun r hr => vecAt_set hd'.1.1 (by omega) hr
    refine ⟨by simp [hl], ?_, ?_, h.ord, fun x hx => List.mem_append_left _ (h.sub x hx), by have := h.mlen; simp; omega, tail fun s c h0 h5 hc => ?_⟩
    · intro n hn
      rcases List.mem_or_eq_of_mem_set hn with hn | rfl
      · exact h.bd n hn
      · omega
    · intro m hm
      obtain ⟨m1, m2⟩ := h.dots m hm
      refine ⟨m1, ?_⟩
      rw [hva m.1 (dotOk_iff.1 m1).1.1]
      by_cases e : m.1 = d.1
      · exfalso
        have := hs m (h.sub m hm)
        rw [e] at m2
        unfold dlt at this; omega
      · rw [if_neg e]; exact m2
    · rw [hva s h0]
      by_cases e : s = d.1
      · subst e
        rw [if_pos rfl]
        constructor
        · rintro (hx | hx)
          · by_cases e2 : c ≤ vecAt v d.1
            · exact .inl (.inl e2)
            · right; exact Prod.ext rfl (by simp only; omega)
          · exact .inl (.inr hx)
        · rintro ((hx | hx) | hx)
          · left; omega
          · exact .inr hx
          · left; rw [← hx] at h2; simp only at h2; omega
      · rw [if_neg e]
        constructor
        · exact .inl
        · rintro (hx | hx)
          · exact hx
          · exact absurd (by rw [← hx]) e
  rw [if_neg h2]
  by_cases h3 : more.getLast? = some d
  · rw [if_pos h3]
    refine ⟨hl, h.bd, h.dots, h.ord, fun x hx => List.mem_append_left _ (h.sub x hx), by have := h.mlen; simp; omega, tail fun s c h0 h5 hc => ?_⟩
    constructor
    · exact .inl
    · rintro (hx | hx)
      · exact hx
      · rw [hx]; exact .inr (List.mem_of_getLast? h3)
  · rw [if_neg h3]
    refine ⟨hl, h.bd, ?_, ?_, ?_, by have := h.mlen; simp; omega, tail fun s c h0 h5 hc => ?_⟩
    · intro m hm
      rcases List.mem_append.1 hm with hm | hm
      · exact h.dots m hm
      · simp only [List.mem_singleton] at hm; subst hm; exact ⟨hd, by simp only; omega⟩
    · rw [List.pairwise_append]
      refine ⟨h.ord, List.pairwise_singleton _ _, fun m hm x hx => ?_⟩
      simp only [List.mem_singleton] at hx
      subst hx
      rcases dlt_tri m x with g | g | g
      · exact g
      · exfalso
        subst g
        apply h3
        rcases List.eq_nil_or_concat more with rfl | ⟨l, z, hz⟩
        · simp at hm
        · rw [List.concat_eq_append] at hz
          subst hz
          simp only [List.getLast?_append, List.getLast?_singleton, Option.some_or]
          rcases List.mem_append.1 hm with hm | hm
          · have g1 := (List.pairwise_append.1 h.ord).2.2 m hm z (by simp)
            exact absurd g1 (hs z (h.sub z (by simp)))
          · simp only [List.mem_singleton] at hm; rw [hm]
      · exact absurd g (hs m (h.sub m hm))
    · intro m hm
      rcases List.mem_append.1 hm with hm | hm
      · exact List.mem_append_left _ (h.sub m hm)
      · exact List.mem_append_right _ hm
    · rw [List.mem_append, List.mem_singleton]
      constructor
      · rintro (hx | hx | hx)
        · exact .inl (.inl hx)
        · exact .inl (.inr hx)
        · exact .inr hx
      · rintro ((hx | hx) | hx)
        · exact .inl hx
        · exact .inr (.inl hx)
        · exact .inr (.inr hx)
theorem made_st {v0 : List Int} (h : v0.length = 5) (hb : ∀ n ∈ v0, 0 ≤ n ∧ n ≤ 1000) (ds : Dots) : (∀ d ∈ ds, dotOk d = true) → ds.Pairwise (fun x y => ¬ dlt y x) → MadeSt (madeAll v0 ds).1 (madeAll v0 ds).2 v0 ds := by
  refine snoc_ind (p := fun ds => (∀ d ∈ ds, dotOk d = true) → ds.Pairwise (fun x y => ¬ dlt y x) → MadeSt (madeAll v0 ds).1 (madeAll v0 ds).2 v0 ds) ?_ ?_ ds
  · intro _ _; exact MadeSt.zero h hb
  · intro l d ih hd hs
    rw [List.pairwise_append] at hs
    have := ih (fun x hx => hd x (List.mem_append_left _ hx)) hs.1
    rw [madeAll_snoc]
    exact this.step (hd d (by simp)) fun x hx => hs.2.2 x hx d (by simp)
/-- Without the noughts at its end. -/
def trimZ (v : List Int) : List Int := (v.reverse.dropWhile (· == 0)).reverse
theorem trimZ_snoc (v : List Int) (x : Int) : trimZ (v ++ [x]) = if x = 0 then trimZ v else v ++ [x] := by
  unfold trimZ
  rw [List.reverse_append]
  by_cases h : x = 0
  · simp [h]
  · rw [if_neg h]; simp [h]
theorem trimZ_last (v : List Int) : (trimZ v).getLast? ≠ some 0 := by
  refine snoc_ind (p := fun v => (trimZ v).getLast? ≠ some 0) ?_ ?_ v
  · simp [trimZ]
  · intro l x ih
    rw [trimZ_snoc]
    split
    · exact ih
    · rename_i h; simp [h]
theorem trimZ_vecAt (v : List Int) (s : Int) : vecAt (trimZ v) s = vecAt v s := by
  refine snoc_ind (p := fun v => vecAt (trimZ v) s = vecAt v s) ?_ ?_ v
  · simp [trimZ]
  · intro l x ih
    rw [trimZ_snoc]
    split
    · rename_i h
      rw [ih, h]
      unfold vecAt
      rw [List.getD_eq_getElem?_getD, List.getD_eq_getElem?_getD, List.getElem?_append]
      split
      · rfl
      · rename_i h2
        rw [List.getElem?_eq_none (by omega)]
        by_cases h3 : s.toNat = l.length
        · simp [h3]
        · rw [List.getElem?_eq_none (by simp; omega)]
    · rfl
theorem trimZ_sub (v : List Int) : (trimZ v).length ≤ v.length ∧ ∀ n ∈ trimZ v, n ∈ v := by
  unfold trimZ
  refine ⟨?_, fun n hn => ?_⟩
  · rw [List.length_reverse]
    have := (List.dropWhile_sublist (l := v.reverse) (· == (0 : Int))).length_le
    simpa using this
  · have := (List.dropWhile_sublist (l := v.reverse) (· == (0 : Int))).subset (by simpa using hn)
    simpa using this
/-- THE LAW of Made. -/
theorem made_ok {v0 : List Int} (h : v0.length = 5) (hb : ∀ n ∈ v0, 0 ≤ n ∧ n ≤ 1000) {ds : Dots} (hd : ∀ d ∈ ds, dotOk d = true) (hs : ds.Pairwise (fun x y => ¬ dlt y x)) :
    KnOk ⟨trimZ (madeAll v0 ds).1, (madeAll v0 ds).2⟩ ∧ ∀ s c : Int, 0 ≤ s → s < 5 → 1 ≤ c → knIn ⟨trimZ (madeAll v0 ds).1, (madeAll v0 ds).2⟩ s c = (decide (c ≤ vecAt v0 s) || decide ((s, c) ∈ ds)) := by
  have st := made_st h hb ds hd hs
  obtain ⟨t1, t2⟩ := trimZ_sub (madeAll v0 ds).1
  refine ⟨⟨by have := st.len; simp only; omega, fun n hn => st.bd n (t2 n hn), trimZ_last _, fun d hd => ?_, st.ord⟩, fun s c h0 h5 h1 => ?_⟩
  · simp only [trimZ_vecAt]; exact st.dots d hd
  · have := st.mem s c h0 h5 h1
    simp only [knIn, trimZ_vecAt]
    rw [Bool.eq_iff_iff]
    simpa using this
end Go.Proofs.Ytippljiicnpieaa
