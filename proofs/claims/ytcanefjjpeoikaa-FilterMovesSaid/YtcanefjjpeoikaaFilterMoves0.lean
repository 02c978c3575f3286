/- Parts of a filter, and filters one behind the other. -/
import Derived.Test.YtcanefjjpeoikaaFilter6
import Derived.Test.YtcanefjjpeoikaaBxcConcat
namespace Go.Proofs.Ytcanefjjpeoikaa
open Go.RowKit

theorem bxCells_split (l : Bxs) (us : List Value) (h : us.length = l.length) (i : Nat) (hi : i ≤ l.length) : bxCells l us = bxCells (l.take i) (us.take i) ++ bxCells (l.drop i) (us.drop i) := by
  rw [← bxCells_append _ _ _ _ (by simp [h]), List.take_append_drop, List.take_append_drop]
theorem BxsAt.take {w : World} {a : Option Addr} {n cap : Nat} {l : Bxs} (h : BxsAt w (.slice a n cap) l) (i : Nat) (hi : i ≤ l.length) : BxsAt w (.slice a i cap) (l.take i) := by
  obtain ⟨us, hu, ⟨a', cap', hv, hn, hb, h0, hc⟩, hs⟩ := h
  simp only [Value.slice.injEq] at hv
  obtain ⟨rfl, rfl, rfl⟩ := hv
  refine ⟨us.take i, by simp [hu], ⟨a, cap, by simp [Nat.min_eq_left hi], by simp; omega, by simp; omega, h0, ?_⟩, fun j hj hj' => by simp only [List.getElem_take]; exact hs j _ _⟩
  rcases hc with hc | ⟨b, off, hab, hlt, hcc⟩
  · left
    have := bxCells_length l us hu
    rw [hc] at this
    have hl : l = [] := List.eq_nil_of_length_eq_zero (by simp at this; omega)
    subst hl; simp [bxCells]
  · refine .inr ⟨b, off, hab, hlt, fun j x hj => hcc j x ?_⟩
    rw [bxCells_split l us hu i hi, List.getElem?_append_left (List.getElem?_eq_some_iff.1 hj).1]; exact hj
theorem BxsAt.drop {w : World} {b off n cap : Nat} {l : Bxs} (h : BxsAt w (.slice (some ⟨b, off, none⟩) n cap) l) (i : Nat) (hi : i ≤ l.length) (_hc : i < cap) : BxsAt w (.slice (some ⟨b, off + i * 3, none⟩) (l.length - i) (cap - i)) (l.drop i) := by
  obtain ⟨us, hu, ⟨a', cap', hv, hn, hb, h0, hc⟩, hs⟩ := h
  simp only [Value.slice.injEq] at hv
  obtain ⟨rfl, rfl, rfl⟩ := hv
  refine ⟨us.drop i, by simp [hu], ⟨some ⟨b, off + i * 3, none⟩, cap - i, by rw [List.length_drop], by rw [List.length_drop]; omega, by rw [List.length_drop]; omega, fun e => by simp at e, ?_⟩, fun j hj hj' => by simp only [List.getElem_drop]; exact hs _ _ _⟩
  rcases hc with hc | ⟨b', off', hab, hlt, hcc⟩
  · left
    have := bxCells_length l us hu
    rw [hc] at this
    have hl : l = [] := List.eq_nil_of_length_eq_zero (by simp at this; omega)
    subst hl; simp [bxCells]
  · simp only [Option.some.injEq, Addr.mk.injEq, and_true] at hab
    obtain ⟨rfl, rfl⟩ := hab
    refine .inr ⟨b, off + i * 3, rfl, hlt, fun j x hj => ?_⟩
    have e : (bxCells l us)[i * 3 + j]? = some x := by
      rw [bxCells_split l us hu i hi, List.getElem?_append_right (by rw [bxCells_length _ _ (by simp [hu])]; simp; omega), bxCells_length _ _ (by simp [hu])]
      have : i * 3 + j - (l.take i).length * 3 = j := by simp [Nat.min_eq_left hi]
      rw [this]; exact hj
    rw [Nat.add_assoc]; exact hcc _ _ e
/-- A filter's part is no more than it, and what is made of its parts is the same. -/
theorem inF_append (l m : Bxs) (t n : Int) : inF (l ++ m) t n = (inF l t n || inF m t n) := by simp [inF]
theorem inF_sub (l : Bxs) (i : Nat) (t n : Int) : inF l t n = (inF (l.take i) t n || inF (l.drop i) t n) := by rw [← inF_append, List.take_append_drop]

/-- Rows of boxes, for slices.Concat. -/
def BxRows (w : World) (v : Value) (ls : List Bxs) : Prop := ∃ vs : List Value, vs.length = ls.length ∧ CellsAt w v ls.length vs ∧ ∀ i (h : i < ls.length) (h' : i < vs.length), BxsAt w vs[i] ls[i]
set_option maxRecDepth 100000 in
theorem concatBx_c (v : Value) (ls : List Bxs) (w : World) (h : BxRows w v ls) (hb : ls.flatten.length ≤ 1000) :
    Calls Try.prog 29 #[v] w fun e w' => ∃ v', e = .returned v' ∧ BxsAt w' v' ls.flatten ∧ Below w.heap.size w w' := by
  obtain ⟨vs, h1, h2, h3⟩ := h
  -- the rows, with the spans' values that they hold
  have key : ∀ (ls : List Bxs) (vs : List Value), vs.length = ls.length → (∀ i (h : i < ls.length) (h' : i < vs.length), BxsAt w vs[i] ls[i]) →
      ∃ (rs : Rows3) (us : List Value), rs.map (·.1) = vs ∧ (∀ r ∈ rs, CellsAt w r.1 r.2.1 r.2.2) ∧ (∀ r ∈ rs, r.2.2.length = r.2.1 * 3) ∧ (∀ r ∈ rs, ∀ u ∈ r.2.2, u.oneCell' = true) ∧
        tot rs = ls.flatten.length ∧ us.length = ls.flatten.length ∧ flat rs = bxCells ls.flatten us ∧ ∀ i (h : i < ls.flatten.length) (h' : i < us.length), SpansAt w us[i] (ls.flatten[i]).sp := by
    intro ls
    induction ls with
    | nil => intro vs hv _; exact ⟨[], [], by simp at hv; simp [hv], by simp, by simp, by simp, rfl, rfl, rfl, fun i h => by simp at h⟩
    | cons l ls ih =>
      intro vs hv hall
      cases vs with
      | nil => simp at hv
      | cons v vs =>
        obtain ⟨rs, us, k1, k2, k3, k4, k5, k6, k7, k8⟩ := ih vs (by simpa using hv) fun i h h' => by have := hall (i + 1) (by simpa using h) (by simpa using h'); simpa using this
        obtain ⟨us0, q1, q2, q3⟩ := hall 0 (by simp) (by simp)
        simp only [List.getElem_cons_zero] at q1 q2 q3
        have hone : ∀ (m : Bxs) (xs : List Value), xs.length = m.length → (∀ i (h : i < m.length) (h' : i < xs.length), SpansAt w xs[i] m[i].sp) → ∀ u ∈ bxCells m xs, u.oneCell' = true := by
          intro m
          induction m with
          | nil => intro xs _ _ u hu; simp [bxCells] at hu
          | cons b m ih2 =>
            intro xs hx hsp u hu
            cases xs with
            | nil => simp at hx
            | cons x xs =>
              simp only [bxCells, List.mem_cons] at hu
              rcases hu with rfl | rfl | rfl | hu
              · rfl
              · rfl
              · obtain ⟨a, c, hv⟩ := (hsp 0 (by simp) (by simp)).shape
                simp only [List.getElem_cons_zero] at hv
                rw [hv]; rfl
              · exact ih2 xs (by simpa using hx) (fun i h h' => by have := hsp (i + 1) (by simpa using h) (by simpa using h'); simpa using this) u hu
        refine ⟨(v, l.length, bxCells l us0) :: rs, us0 ++ us, by simp [k1], ?_, ?_, ?_, ?_, ?_, ?_, ?_⟩
        · intro r hr; rcases List.mem_cons.1 hr with rfl | hr
          · exact q2
          · exact k2 r hr
        · intro r hr; rcases List.mem_cons.1 hr with rfl | hr
          · exact bxCells_length _ _ q1
          · exact k3 r hr
        · intro r hr; rcases List.mem_cons.1 hr with rfl | hr
          · exact hone l us0 q1 q3
          · exact k4 r hr
        · simp only [tot, List.map_cons, List.sum_cons, List.flatten_cons, List.length_append]; have := k5; simp only [tot] at this; omega
        · simp [q1, k6]
        · rw [List.flatten_cons, bxCells_append _ _ _ _ q1, ← k7]; simp [flat]
        · intro i hi hi'
          simp only [List.flatten_cons]
          by_cases e : i < l.length
          · simp only [List.getElem_append_left e, List.getElem_append_left (show i < us0.length by omega)]; exact q3 i e (by omega)
          · simp only [List.getElem_append_right (show l.length ≤ i by omega), List.getElem_append_right (show us0.length ≤ i by omega), q1]
            exact k8 _ _ _
  obtain ⟨rs, us, k1, k2, k3, k4, k5, k6, k7, k8⟩ := key ls vs h1 h3
  have hrl : rs.length = ls.length := by have := congrArg List.length k1; simp at this; omega
  refine (BxcConcat_c v rs w ⟨by rw [hrl, k1]; exact h2, k2⟩ k3 k4 (by rw [k5]; omega)).mono ?_
  rintro e w' ⟨v', rfl, ho, hb'⟩
  rw [k5, k7] at ho
  exact ⟨v', rfl, ⟨us, k6, CellsAt.of_owns ho (by omega), fun i hi hi' => (k8 i hi hi').below hb'⟩, hb'⟩

theorem FV.part {w : World} {v : Value} {f l : Bxs} (h : BxsAt w v l) (hf : fChk f = 0) (hsub : ∀ b ∈ l, b ∈ f) (hl : l.length ≤ 40) : FV w v (fun k n => inF l k n) :=
  FV.mk h (fChk_zero.2 ⟨hl, fun b hb => (fChk_zero.1 hf).2 b (hsub b hb)⟩)
/-- Rows just laid: two, three slices of boxes. -/
theorem rows2 {w : World} {v u1 u2 : Value} {l1 l2 : Bxs} (h : CellsAt w v 2 [u1, u2]) (h1 : BxsAt w u1 l1) (h2 : BxsAt w u2 l2) : BxRows w v [l1, l2] :=
  ⟨[u1, u2], rfl, h, fun i hi hi' => by
    match i, hi with
    | 0, _ => exact h1
    | 1, _ => exact h2⟩
theorem rows3 {w : World} {v u1 u2 u3 : Value} {l1 l2 l3 : Bxs} (h : CellsAt w v 3 [u1, u2, u3]) (h1 : BxsAt w u1 l1) (h2 : BxsAt w u2 l2) (h3 : BxsAt w u3 l3) : BxRows w v [l1, l2, l3] :=
  ⟨[u1, u2, u3], rfl, h, fun i hi hi' => by
    match i, hi with
    | 0, _ => exact h1
    | 1, _ => exact h2
    | 2, _ => exact h3⟩

theorem part_in (f : Bxs) (j : Nat) (k n : Nat) : (!inF [f.take j, f.drop (j + 1)].flatten k n || inF f k n) = true := by
  have e : inF [f.take j, f.drop (j + 1)].flatten k n = (inF (f.take j) k n || inF (f.drop (j + 1)) k n) := by simp [inF]
  rw [e]
  cases h : inF f k n
  · have h1 := inF_sub f j k n
    have h2 := inF_sub f (j + 1) k n
    rw [h] at h1 h2
    have h1' := (Bool.or_eq_false_iff.1 h1.symm).1
    have h2' := (Bool.or_eq_false_iff.1 h2.symm).2
    rw [h1', h2']; rfl
  · simp
theorem same_parts (f : Bxs) (i j : Nat) (k n : Nat) : inF f k n = inF [f.drop i, f.take i, f.take j].flatten k n := by
  have e : inF [f.drop i, f.take i, f.take j].flatten k n = (inF (f.drop i) k n || (inF (f.take i) k n || inF (f.take j) k n)) := by simp [inF]
  have h1 := inF_sub f i k n
  have h2 := inF_sub f j k n
  rw [e]
  cases hf : inF f k n
  · rw [hf] at h1 h2
    obtain ⟨a1, a2⟩ := Bool.or_eq_false_iff.1 h1.symm
    obtain ⟨a3, -⟩ := Bool.or_eq_false_iff.1 h2.symm
    rw [a1, a2, a3]; rfl
  · rw [hf] at h1
    revert h1
    cases inF (f.take i) k n <;> cases inF (f.drop i) k n <;> simp
end Go.Proofs.Ytcanefjjpeoikaa
