/- The sentence of a filter, as formula.Of makes it: the plain functions, and what it says. No program in sight. -/
import Derived.Test.YtcanefjjpeoikaaFormBoole0
import Derived.Test.YtcanefjjpeoikaaFilterPure
namespace Go.Proofs.Ytcanefjjpeoikaa
open Go.RowKit
def tagNone (y n : Int) (t : Nat) : Bool := bits .and .i64 (bits .or .i64 y n / 2 ^ t) 1 == 0
def tagNo (n : Int) (t : Nat) : Bool := bits .and .i64 (n / 2 ^ t) 1 == 1
def ofTag (y n : Int) (st : Nds × Nat) (t : Nat) : Nds × Nat :=
  if tagNone y n t then st
  else if tagNo n t then (((st.1 ++ [⟨2, t, 0⟩]) ++ [⟨4, st.1.length, 0⟩]) ++ [⟨5, st.2, (st.1.length + 1 : Nat)⟩], st.1.length + 2)
  else ((st.1 ++ [⟨2, t, 0⟩]) ++ [⟨5, st.2, st.1.length⟩], st.1.length + 1)
def ofTags (y n : Int) (st : Nds × Nat) (k : Nat) : Nds × Nat := (List.range k).foldl (ofTag y n) st
theorem ofTags_succ (y n : Int) (st : Nds × Nat) (k : Nat) : ofTags y n st (k + 1) = ofTag y n (ofTags y n st k) k := by simp [ofTags, List.range_succ]
def ofSpan (st : Nds × Nat) (s : Int × Int) : Nds × Nat := ((st.1 ++ [⟨3, s.1, s.2⟩]) ++ [⟨6, st.2, st.1.length⟩], st.1.length + 1)
def ofSpans (st : Nds × Nat) (l : Spans) : Nds × Nat := l.foldl ofSpan st
theorem ofSpans_snoc (st : Nds × Nat) (l : Spans) (s : Int × Int) : ofSpans st (l ++ [s]) = ofSpan (ofSpans st l) s := by simp [ofSpans]
def ofBox (st : Nds × Nat) (b : Bx) : Nds × Nat :=
  let a := ofTags b.y b.n (st.1, 0) 4
  let i := ofSpans (a.1, 1) b.sp
  ((i.1 ++ [⟨5, a.2, i.2⟩]) ++ [⟨6, st.2, i.1.length⟩], i.1.length + 1)
def ofAll (f : Bxs) : Nds × Nat := f.foldl ofBox ([⟨1, 0, 0⟩, ⟨4, 0, 0⟩], 1)
theorem ofAll_snoc (f : Bxs) (b : Bx) : ofAll (f ++ [b]) = ofBox (ofAll f) b := by simp [ofAll]
def ofE (f : Bxs) : Int := if fChk f = 0 then (if 30 < (ofAll f).1.length then 2 else 0) else fChk f
def ofL (f : Bxs) : Nds := if ofE f = 0 then (ofAll f).1 else []

theorem ofTag_len (y n : Int) (st : Nds × Nat) (t : Nat) : st.1.length ≤ (ofTag y n st t).1.length ∧ (ofTag y n st t).1.length ≤ st.1.length + 3 := by
  unfold ofTag; split
  · omega
  split <;> simp
theorem ofTags_len (y n : Int) (st : Nds × Nat) (k : Nat) : st.1.length ≤ (ofTags y n st k).1.length ∧ (ofTags y n st k).1.length ≤ st.1.length + 3 * k := by
  induction k with
  | zero => simp [ofTags]
  | succ k ih => rw [ofTags_succ]; have := ofTag_len y n (ofTags y n st k) k; omega
theorem ofSpans_len (st : Nds × Nat) (l : Spans) : (ofSpans st l).1.length = st.1.length + 2 * l.length := by
  induction l generalizing st with
  | nil => simp [ofSpans]
  | cons s l ih => have := ih (ofSpan st s); simp only [ofSpans, List.foldl_cons, List.length_cons] at *; rw [this]; simp [ofSpan]; omega
theorem ofBox_len (st : Nds × Nat) (b : Bx) (h : b.sp.length ≤ 16) : (ofBox st b).1.length ≤ st.1.length + 46 := by
  have h1 := ofTags_len b.y b.n (st.1, 0) 4
  have h2 := ofSpans_len ((ofTags b.y b.n (st.1, 0) 4).1, 1) b.sp
  simp only [ofBox, List.length_append, List.length_singleton] at *
  omega
theorem ofAll_len (f : Bxs) : (∀ b ∈ f, bxChk b = 0) → (ofAll f).1.length ≤ 2 + 46 * f.length := by
  refine snoc_ind (p := fun f => (∀ b ∈ f, bxChk b = 0) → (ofAll f).1.length ≤ 2 + 46 * f.length) ?_ ?_ f
  · intro _; simp [ofAll]
  · intro l b ih h
    have := ih fun x hx => h x (List.mem_append_left _ hx)
    have hb := (spansChk_bounds (bxChk_zero.1 (h b (by simp))).2).1
    rw [ofAll_snoc]
    have := ofBox_len (ofAll l) b hb
    simp; omega

/-- All nodes may be where they stand. -/
def Sen (l : Nds) : Prop := ∀ k (hk : k < l.length), ndChk k l[k] = 0
theorem Sen.snoc {l : Nds} {x : Nd} (h : Sen l) (hx : ndChk l.length x = 0) : Sen (l ++ [x]) := by
  intro k hk
  rw [List.getElem_append]
  split
  · exact h k _
  · have : k = l.length := by simp at hk; omega
    subst this; simpa using hx
/-- The i-th node says b of the point. -/
def Val (t n : Int) (l : Nds) (i : Nat) (b : Bool) : Prop := i < l.length ∧ (valsK l t n l.length).getD i false = b
theorem Val.snoc {t n : Int} {l : Nds} {i : Nat} {b : Bool} (x : Nd) (h : Val t n l i b) : Val t n (l ++ [x]) i b := by
  refine ⟨by have := h.1; simp; omega, ?_⟩
  rw [vals_snoc, getD_app_lt (by rw [valsK_length]; exact h.1)]; exact h.2
theorem Val.new {t n : Int} {l : Nds} {x : Nd} {b : Bool} (h : ndVal (valsK l t n l.length) t n x = b) : Val t n (l ++ [x]) l.length b := by
  refine ⟨by simp, ?_⟩
  rw [vals_snoc, getD_app_last (by rw [valsK_length])]; exact h
theorem nd2 (vs : List Bool) (t n a : Int) : ndVal vs t n ⟨2, a, 0⟩ = (bits .and .i64 (t / 2 ^ a.toNat) 1 == 1) := by simp [ndVal]
theorem Val.not {t n : Int} {l : Nds} {i : Nat} {b : Bool} (h : Val t n l i b) : Val t n (l ++ [⟨4, i, 0⟩]) l.length (!b) := Val.new (by rw [← h.2]; simp [ndVal])
theorem Val.both {t n : Int} {l : Nds} {i j : Nat} {b c : Bool} (h : Val t n l i b) (k : Val t n l j c) : Val t n (l ++ [⟨5, i, j⟩]) l.length (b && c) := Val.new (by rw [← h.2, ← k.2]; simp [ndVal])
theorem Val.any {t n : Int} {l : Nds} {i j : Nat} {b c : Bool} (h : Val t n l i b) (k : Val t n l j c) : Val t n (l ++ [⟨6, i, j⟩]) l.length (b || c) := Val.new (by rw [← h.2, ← k.2]; simp [ndVal])
theorem Val.in_ {t n : Int} (l : Nds) (a b : Int) : Val t n (l ++ [⟨3, a, b⟩]) l.length (decide (a ≤ n) && decide (n < b)) := Val.new (by simp [ndVal])
theorem Val.tag {t n : Int} (l : Nds) (a : Nat) : Val t n (l ++ [⟨2, a, 0⟩]) l.length (bits .and .i64 (t / 2 ^ a) 1 == 1) := Val.new (by simp [ndVal])
theorem Val.lt {t n : Int} {l : Nds} {i : Nat} {b : Bool} (h : Val t n l i b) : i < l.length := h.1
/-- What is known of all sentences on the way. -/
structure Sta (t n : Int) (l : Nds) : Prop where
  sen : Sen l
  one : Val t n l 0 true
  two : Val t n l 1 false
theorem Sta.snoc {t n : Int} {l : Nds} {x : Nd} (h : Sta t n l) (hx : ndChk l.length x = 0) : Sta t n (l ++ [x]) := ⟨h.sen.snoc hx, h.one.snoc _, h.two.snoc _⟩
theorem ck2 (i a : Nat) (h : a < 4) : ndChk i ⟨2, a, 0⟩ = 0 := by simp only [ndChk]; rw [if_neg (by decide), if_pos trivial, if_neg (by omega)]
theorem ck3 (i : Nat) (a b : Int) (h : 0 ≤ a ∧ a < b ∧ b ≤ 32) : ndChk i ⟨3, a, b⟩ = 0 := by simp only [ndChk]; rw [if_neg (by decide), if_neg (by decide), if_pos trivial, if_neg (by omega)]
theorem ck4 (i a : Nat) (h : a < i) : ndChk i ⟨4, a, 0⟩ = 0 := by simp only [ndChk]; rw [if_neg (by decide), if_neg (by decide), if_neg (by decide), if_pos trivial, if_neg (by omega)]
theorem ck5 (i a b : Nat) (h : a < i) (k : b < i) : ndChk i ⟨5, a, b⟩ = 0 := by simp only [ndChk]; rw [if_neg (by decide), if_neg (by decide), if_neg (by decide), if_neg (by decide), if_pos (.inl trivial), if_neg (by omega)]
theorem ck6 (i a b : Nat) (h : a < i) (k : b < i) : ndChk i ⟨6, a, b⟩ = 0 := by simp only [ndChk]; rw [if_neg (by decide), if_neg (by decide), if_neg (by decide), if_neg (by decide), if_pos (.inr trivial), if_neg (by omega)]

theorem tag_fact : ∀ y : Nat, y < 16 → ∀ n : Nat, n < 16 → cubeChk (y : Int) (n : Int) = 0 → ∀ t : Nat, t < 16 → cubeIn (y : Int) (n : Int) (t : Int) =
    (List.range 4).all fun k => (tagNone (y : Int) (n : Int) k || if tagNo (n : Int) k then !(bits .and .i64 ((t : Int) / 2 ^ k) 1 == 1) else (bits .and .i64 ((t : Int) / 2 ^ k) 1 == 1)) := by decide +kernel
/-- What one tag says. -/
def tagSays (y n t : Int) (k : Nat) : Bool := tagNone y n k || if tagNo n k then !(bits .and .i64 (t / 2 ^ k) 1 == 1) else (bits .and .i64 (t / 2 ^ k) 1 == 1)
theorem ofTag_ok {t n : Int} {l : Nds} {i : Nat} {b : Bool} (y m : Int) (k : Nat) (hk : k < 4) (h : Sta t n l) (hv : Val t n l i b) :
    Sta t n (ofTag y m (l, i) k).1 ∧ Val t n (ofTag y m (l, i) k).1 (ofTag y m (l, i) k).2 (b && tagSays y m t k) ∧ ∀ j c, Val t n l j c → Val t n (ofTag y m (l, i) k).1 j c := by
  by_cases h1 : tagNone y m k = true
  · have e : ofTag y m (l, i) k = (l, i) := by unfold ofTag; rw [if_pos h1]
    have e2 : tagSays y m t k = true := by unfold tagSays; rw [h1]; rfl
    rw [e, e2, Bool.and_true]; exact ⟨h, hv, fun j c hj => hj⟩
  unfold ofTag tagSays
  rw [if_neg h1]
  have h1' : tagNone y m k = false := by simpa using h1
  rw [h1']
  have s1 := h.snoc (x := ⟨2, k, 0⟩) (ck2 _ _ hk)
  have v1 := Val.tag (t := t) (n := n) l k
  by_cases h2 : tagNo m k = true
  · simp only [if_pos h2, Bool.false_or]
    have s2 := s1.snoc (x := ⟨4, l.length, 0⟩) (ck4 _ _ (by simp))
    have v2 := v1.not
    have e : (l ++ [(⟨2, (k : Int), 0⟩ : Nd)]).length = l.length + 1 := by simp
    rw [e] at v2
    have s3 := s2.snoc (x := ⟨5, i, (l.length + 1 : Nat)⟩) (ck5 _ _ _ (by have := hv.1; simp; omega) (by simp))
    have v3 := ((hv.snoc (⟨2, k, 0⟩ : Nd)).snoc (⟨4, l.length, 0⟩ : Nd)).both v2
    have e2 : ((l ++ [(⟨2, (k : Int), 0⟩ : Nd)]) ++ [(⟨4, (l.length : Int), 0⟩ : Nd)]).length = l.length + 2 := by simp
    rw [e2] at v3
    exact ⟨s3, v3, fun j c hj => Val.snoc _ (Val.snoc _ (Val.snoc _ hj))⟩
  · simp only [if_neg h2, Bool.false_or]
    have s3 := s1.snoc (x := ⟨5, i, l.length⟩) (ck5 _ _ _ (by have := hv.1; simp; omega) (by simp))
    have v3 := (hv.snoc ⟨2, k, 0⟩).both v1
    have e : (l ++ [(⟨2, (k : Int), 0⟩ : Nd)]).length = l.length + 1 := by simp
    rw [e] at v3
    exact ⟨s3, v3, fun j c hj => (hj.snoc _).snoc _⟩
theorem ofTags_ok {t n : Int} {l : Nds} (y m : Int) (h : Sta t n l) (k : Nat) (hk : k ≤ 4) :
    Sta t n (ofTags y m (l, 0) k).1 ∧ Val t n (ofTags y m (l, 0) k).1 (ofTags y m (l, 0) k).2 ((List.range k).all (tagSays y m t)) ∧ ∀ j c, Val t n l j c → Val t n (ofTags y m (l, 0) k).1 j c := by
  induction k with
  | zero => exact ⟨h, h.one, fun j c hj => hj⟩
  | succ k ih =>
    obtain ⟨h1, h2, h3⟩ := ih (by omega)
    obtain ⟨g1, g2, g3⟩ := ofTag_ok y m k (by omega) h1 h2
    rw [ofTags_succ, List.range_succ, List.all_append]
    refine ⟨g1, ?_, fun j c hj => g3 j c (h3 j c hj)⟩
    simpa using g2
theorem ofSpans_ok {t n : Int} {l : Nds} {i : Nat} {b : Bool} (sp : Spans) (hs : ∀ s ∈ sp, 0 ≤ s.1 ∧ s.1 < s.2 ∧ s.2 ≤ 32) (h : Sta t n l) (hv : Val t n l i b) :
    Sta t n (ofSpans (l, i) sp).1 ∧ Val t n (ofSpans (l, i) sp).1 (ofSpans (l, i) sp).2 (b || inB sp n) ∧ ∀ j c, Val t n l j c → Val t n (ofSpans (l, i) sp).1 j c := by
  induction sp generalizing l i b with
  | nil => exact ⟨h, by rw [show inB [] n = false from rfl, Bool.or_false]; exact hv, fun j c hj => hj⟩
  | cons s sp ih =>
    have s1 := h.snoc (x := ⟨3, s.1, s.2⟩) (ck3 _ _ _ (hs s List.mem_cons_self))
    have v1 := Val.in_ (t := t) (n := n) l s.1 s.2
    have s2 := s1.snoc (x := ⟨6, i, l.length⟩) (ck6 _ _ _ (by have := hv.1; simp; omega) (by simp))
    have v2 := (hv.snoc ⟨3, s.1, s.2⟩).any v1
    have e : (l ++ [(⟨3, s.1, s.2⟩ : Nd)]).length = l.length + 1 := by simp
    rw [e] at v2
    obtain ⟨g1, g2, g3⟩ := ih (fun x hx => hs x (List.mem_cons_of_mem _ hx)) s2 v2
    have e2 : ofSpans (l, i) (s :: sp) = ofSpans ((l ++ [⟨3, s.1, s.2⟩]) ++ [⟨6, i, l.length⟩], l.length + 1) sp := rfl
    rw [e2]
    refine ⟨g1, ?_, fun j c hj => g3 j c ((hj.snoc _).snoc _)⟩
    rw [inB_cons, ← Bool.or_assoc]; exact g2
theorem ofBox_ok {t : Nat} {n : Int} {l : Nds} {i : Nat} {b : Bool} (x : Bx) (ht : t < 16) (hx : bxChk x = 0) (h : Sta t n l) (hv : Val t n l i b) :
    Sta t n (ofBox (l, i) x).1 ∧ Val t n (ofBox (l, i) x).1 (ofBox (l, i) x).2 (b || (cubeIn x.y x.n t && inB x.sp n)) ∧ ∀ j c, Val t n l j c → Val t n (ofBox (l, i) x).1 j c := by
  obtain ⟨c1, c2⟩ := bxChk_zero.1 hx
  obtain ⟨a1, a2, a3⟩ := ofTags_ok x.y x.n h 4 (Nat.le_refl _)
  obtain ⟨i1, i2, i3⟩ := ofSpans_ok (i := 1) x.sp (spansChk_bounds c2).2 a1 a1.two
  have hc : cubeIn x.y x.n t = (List.range 4).all (tagSays x.y x.n t) := by
    have hb : 0 ≤ x.y ∧ x.y < 16 ∧ 0 ≤ x.n ∧ x.n < 16 := by
      by_cases hh : (tagsB x.y && tagsB x.n) = true
      · simp [tagsB] at hh; omega
      · unfold cubeChk at c1; rw [if_neg hh] at c1; exact absurd c1 (by decide)
    obtain ⟨Y, hY⟩ := Int.eq_ofNat_of_zero_le hb.1
    obtain ⟨M, hM⟩ := Int.eq_ofNat_of_zero_le hb.2.2.1
    rw [hY, hM] at c1 ⊢
    exact tag_fact Y (by omega) M (by omega) c1 t ht
  simp only [ofBox]
  rw [Bool.false_or] at i2
  rw [hc]
  generalize ofTags x.y x.n (l, 0) 4 = A at *
  generalize hI : ofSpans (A.1, 1) x.sp = I at *
  have va := i3 _ _ a2
  have s1 := i1.snoc (x := ⟨5, A.2, I.2⟩) (ck5 _ _ _ va.1 i2.1)
  have v1 := va.both i2
  have vi := (i3 _ _ (a3 _ _ hv)).snoc ⟨5, A.2, I.2⟩
  have s2 := s1.snoc (x := ⟨6, i, I.1.length⟩) (ck6 _ _ _ vi.1 (by simp))
  have v2 := vi.any v1
  have e : (I.1 ++ [(⟨5, (A.2 : Int), (I.2 : Int)⟩ : Nd)]).length = I.1.length + 1 := by simp
  rw [e] at v2
  exact ⟨s2, v2, fun j c hj => ((i3 _ _ (a3 _ _ hj)).snoc _).snoc _⟩
theorem ofAll_ok {t : Nat} {n : Int} (ht : t < 16) (f : Bxs) : (∀ b ∈ f, bxChk b = 0) → Sta t n (ofAll f).1 ∧ Val t n (ofAll f).1 (ofAll f).2 (inF f t n) ∧ (ofAll f).2 + 1 = (ofAll f).1.length := by
  refine snoc_ind (p := fun f => (∀ b ∈ f, bxChk b = 0) → Sta t n (ofAll f).1 ∧ Val t n (ofAll f).1 (ofAll f).2 (inF f t n) ∧ (ofAll f).2 + 1 = (ofAll f).1.length) ?_ ?_ f
  · intro _
    refine ⟨⟨fun k hk => ?_, ⟨by simp [ofAll], by simp [ofAll, valsK, ndVal]⟩, ⟨by simp [ofAll], by simp [ofAll, valsK, ndVal]⟩⟩, ⟨by simp [ofAll], by simp [ofAll, valsK, ndVal, inF]⟩, by simp [ofAll]⟩
    have hk2 : k < 2 := by simpa [ofAll] using hk
    have : k = 0 ∨ k = 1 := by omega
    rcases this with rfl | rfl <;> simp [ofAll, ndChk]
  · intro l b ih h
    obtain ⟨h1, h2, h3⟩ := ih fun x hx => h x (List.mem_append_left _ hx)
    obtain ⟨g1, g2, g3⟩ := ofBox_ok b ht (h b (by simp)) h1 h2
    rw [ofAll_snoc]
    refine ⟨g1, ?_, by simp [ofBox]⟩
    have e : inF (l ++ [b]) t n = (inF l t n || (cubeIn b.y b.n t && inB b.sp n)) := by simp [inF]
    rw [e]; exact g2
/-- THE LAW: the sentence may be, and says so just of the filter's points. -/
theorem ofL_ok {f : Bxs} (h : ofE f = 0) : fChk f = 0 ∧ formChk (ofL f) = 0 ∧ ∀ (t : Nat) (n : Int), t < 16 → formVal (ofL f) t n = inF f t n := by
  have h' := h
  unfold ofE at h'
  by_cases h0 : fChk f = 0
  · rw [if_pos h0] at h'
    have hl : (ofAll f).1.length ≤ 30 := by
      by_cases h2 : 30 < (ofAll f).1.length
      · rw [if_pos h2] at h'; exact absurd h' (by decide)
      · omega
    have hok := (fChk_zero.1 h0).2
    have e : ofL f = (ofAll f).1 := by unfold ofL; rw [if_pos h]
    rw [e]
    refine ⟨h0, ?_, fun t n ht => ?_⟩
    · obtain ⟨s, -, l⟩ := ofAll_ok (t := 0) (n := 0) (by decide) f hok
      exact formChk_of (by omega) hl s.sen
    · obtain ⟨-, v, l⟩ := ofAll_ok (t := t) (n := n) ht f hok
      unfold formVal
      rw [show (ofAll f).1.length - 1 = (ofAll f).2 by omega]; exact v.2
  · rw [if_neg h0] at h'; exact absurd h' h0
end Go.Proofs.Ytcanefjjpeoikaa
