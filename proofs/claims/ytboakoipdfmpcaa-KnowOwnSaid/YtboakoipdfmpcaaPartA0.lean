/- Parts of the call's own whose memory is apart from each other's. No walk here. -/
import Derived.Test.YtboakoipdfmpcaaPartOwn
namespace Go.Proofs.Ytboakoipdfmpcaa
open Go.RowKit
def InS (S : Nat → Prop) (v : Value) : Prop := ∀ q, v.ownBlock = some q → S q
/-- One part's memory, all of it in the blocks S. -/
def PtIn (w : World) (base : Nat) (S : Nat → Prop) (c : List Value) (p : Pt) : Prop :=
  ∃ (f u x : Value) (us : List Value), c = [f, u, x] ∧ us.length = p.f.length ∧ w.ownsRow base 57 3 f p.f.length (bxCells p.f us) ∧ (∀ i (h : i < p.f.length) (h' : i < us.length), w.ownsRow base 60 2 us[i] p.f[i].sp.length (spansCells p.f[i].sp)) ∧ KnOwn w base u x p.k ∧ InS S f ∧ (∀ y ∈ us, InS S y) ∧ InS S u ∧ InS S x
theorem PtIn.map {w w' : World} {base : Nat} {S T : Nat → Prop} {c : List Value} {p : Pt} (h : PtIn w base S c p) (hST : ∀ q, S q → T q) (hr : ∀ (e size n : Nat) (v : Value) (xs : List Value), (e = 57 ∨ e = 60 ∨ e = 3 ∨ e = 27) → w.ownsRow base e size v n xs → w'.ownsRow base e size v n xs) : PtIn w' base T c p := by
  obtain ⟨f, u, x, us, h1, h2, h3, h4, h5, h6, h7, h8, h9⟩ := h
  exact ⟨f, u, x, us, h1, h2, hr _ _ _ _ _ (.inl rfl) h3, fun i hi hi' => hr _ _ _ _ _ (.inr (.inl rfl)) (h4 i hi hi'), ⟨hr _ _ _ _ _ (.inr (.inr (.inl rfl))) h5.vec, hr _ _ _ _ _ (.inr (.inr (.inr rfl))) h5.more⟩, fun q hq => hST q (h6 q hq), fun y hy q hq => hST q (h7 y hy q hq), fun q hq => hST q (h8 q hq), fun q hq => hST q (h9 q hq)⟩
/-- Rows of parts, each part's memory in blocks of its own, all below t. -/
structure PTok (w : World) (base t : Nat) (css : List (List Value)) (Ss : List (Nat → Prop)) (v : Value) (l : List Pt) : Prop where
  lc : css.length = l.length
  ls : Ss.length = l.length
  row : w.ownsRow base 33 3 v l.length css.flatten
  each : ∀ i (h : i < l.length) (h' : i < css.length) (h2 : i < Ss.length), PtIn w base Ss[i] css[i] l[i]
  apart : ∀ i j (hi : i < Ss.length) (hj : j < Ss.length), i ≠ j → ∀ q, Ss[i] q → Ss[j] q → False
  low : ∀ i (h : i < Ss.length) q, Ss[i] q → q < t
def POwnT (w : World) (base t : Nat) (v : Value) (l : List Pt) : Prop := ∃ css Ss, PTok w base t css Ss v l
def POwnA (w : World) (base : Nat) (v : Value) (l : List Pt) : Prop := POwnT w base w.heap.size v l
theorem PTok.below {w w' : World} {base t : Nat} {css : List (List Value)} {Ss : List (Nat → Prop)} {v : Value} {l : List Pt} (h : PTok w base t css Ss v l) (hb : Below w.heap.size w w') : PTok w' base t css Ss v l :=
  ⟨h.lc, h.ls, owns_below h.row hb, fun i h1 h2 h3 => (h.each i h1 h2 h3).map (fun _ hq => hq) (fun _ _ _ _ _ _ hr => owns_below hr hb), h.apart, h.low⟩
theorem PTok.top {w : World} {base t t' : Nat} {css : List (List Value)} {Ss : List (Nat → Prop)} {v : Value} {l : List Pt} (h : PTok w base t css Ss v l) (ht : t ≤ t') : PTok w base t' css Ss v l :=
  ⟨h.lc, h.ls, h.row, h.each, h.apart, fun i hi q hq => Nat.lt_of_lt_of_le (h.low i hi q hq) ht⟩
theorem POwnT.below {w w' : World} {base t : Nat} {v : Value} {l : List Pt} (h : POwnT w base t v l) (hb : Below w.heap.size w w') : POwnT w' base t v l := by
  obtain ⟨css, Ss, h1⟩ := h; exact ⟨css, Ss, h1.below hb⟩
theorem POwnA.below {w w' : World} {base : Nat} {v : Value} {l : List Pt} (h : POwnA w base v l) (hb : Below w.heap.size w w') : POwnA w' base v l := by
  obtain ⟨css, Ss, h1⟩ := h; exact ⟨css, Ss, (h1.below hb).top hb.size⟩
theorem POwnA.nil (w : World) (base : Nat) : POwnA w base (.slice none 0 0) [] := ⟨[], [], rfl, rfl, World.ownsRow_nil _ _ _ _, fun i h => by simp at h, fun i _ h => by simp at h, fun i h => by simp at h⟩
theorem POwnT.shape {w : World} {base t : Nat} {v : Value} {l : List Pt} (h : POwnT w base t v l) : ∃ a c, v = .slice a l.length c := by
  obtain ⟨css, Ss, h1⟩ := h; exact owns_slice h1.row
theorem POwnA.shape {w : World} {base : Nat} {v : Value} {l : List Pt} (h : POwnA w base v l) : ∃ a c, v = .slice a l.length c := POwnT.shape h
theorem PtIn.mono {w : World} {base base' : Nat} {S : Nat → Prop} {c : List Value} {p : Pt} (h : PtIn w base S c p) (hb : base' ≤ base) : PtIn w base' S c p := by
  obtain ⟨f, u, x, us, h1, h2, h3, h4, h5, h6⟩ := h
  exact ⟨f, u, x, us, h1, h2, owns_mono h3 hb, fun i hi hi' => owns_mono (h4 i hi hi') hb, h5.mono hb, h6⟩
theorem POwnA.mono {w : World} {base base' : Nat} {v : Value} {l : List Pt} (h : POwnA w base v l) (hb : base' ≤ base) : POwnA w base' v l := by
  obtain ⟨css, Ss, h1⟩ := h
  exact ⟨css, Ss, h1.lc, h1.ls, owns_mono h1.row hb, fun i a b c => (h1.each i a b c).mono hb, h1.apart, h1.low⟩
theorem pe_of {w : World} {base : Nat} : ∀ {l : List Pt} {css : List (List Value)} {Ss : List (Nat → Prop)}, css.length = l.length → Ss.length = l.length → (∀ i (h : i < l.length) (h' : i < css.length) (h2 : i < Ss.length), PtIn w base Ss[i] css[i] l[i]) → PE w base l css
  | [], [], _, _, _, _ => trivial
  | p :: l, c :: css, S :: Ss, h1, h2, h => by
    obtain ⟨f, u, x, us, k1, k2, k3, k4, k5, -⟩ := h 0 (by simp) (by simp) (by simp)
    refine ⟨⟨f, u, x, k1, ⟨us, k2, k3, k4⟩, k5⟩, pe_of (Ss := Ss) (by simpa using h1) (by simpa using h2) fun i a b c => ?_⟩
    have := h (i + 1) (by simpa using a) (by simpa using b) (by simpa using c)
    simpa using this
  | p :: l, c :: css, [], _, h2, _ => by simp at h2
  | [], _ :: _, _, h1, _, _ => by simp at h1
  | _ :: _, [], _, h1, _, _ => by simp at h1
theorem POwnT.own {w : World} {base t : Nat} {v : Value} {l : List Pt} (h : POwnT w base t v l) : POwn w base v l := by
  obtain ⟨css, Ss, h1⟩ := h
  exact ⟨css, pe_of h1.lc h1.ls h1.each, h1.row⟩
theorem POwnA.own {w : World} {base : Nat} {v : Value} {l : List Pt} (h : POwnA w base v l) : POwn w base v l := POwnT.own h
theorem POwnA.at_ {w : World} {base : Nat} {v : Value} {l : List Pt} (h : POwnA w base v l) (hok : ∀ p ∈ l, PtOk p) (hl : l.length ≤ 1000) : RowAt partE w v l := h.own.at_ hok hl
/-- What was just made lies at or above t. -/
theorem PtIn.of_new {w : World} {base t : Nat} {f u x : Value} {p : Pt} (hf : FOwn w t f p.f) (hk : KnOwn w t u x p.k) (hb : base ≤ t) : PtIn w base (fun q => t ≤ q ∧ q < w.heap.size) [f, u, x] p := by
  obtain ⟨us, h1, h2, h3⟩ := hf
  refine ⟨f, u, x, us, rfl, h1, owns_mono h2 hb, fun i hi hi' => owns_mono (h3 i hi hi') hb, hk.mono hb, fun q hq => h2.lt q hq, fun y hy q hq => ?_, fun q hq => hk.vec.lt q hq, fun q hq => hk.more.lt q hq⟩
  obtain ⟨i, hi, rfl⟩ := List.mem_iff_getElem.1 hy
  exact (h3 i (by omega) hi).lt q hq
/-- An append of one part whose memory is new. -/
theorem PTok.push {w w' : World} {base t : Nat} {css : List (List Value)} {Ss : List (Nat → Prop)} {v v' f u x : Value} {l : List Pt} {p : Pt} (h : PTok w base t css Ss v l) (hf : FOwn w t f p.f) (hk : KnOwn w t u x p.k) (hbt : base ≤ t) (htw : t ≤ w.heap.size)
    (ho : w'.ownsRow base 33 3 v' (l.length + 1) (css.flatten ++ [f, u, x])) (hg : w.grownBy w' v.ownBlock) : POwnA w' base v' (l ++ [p]) := by
  have hsz : w.heap.size ≤ w'.heap.size := hg.size
  have keep : ∀ (e size n : Nat) (y : Value) (xs : List Value), (e = 57 ∨ e = 60 ∨ e = 3 ∨ e = 27) → w.ownsRow base e size y n xs → w'.ownsRow base e size y n xs := by
    intro e size n y xs he hr
    refine own_kept2 hr h.row ?_ hg
    rcases he with rfl | rfl | rfl | rfl <;> decide
  have hnew := (PtIn.of_new hf hk hbt).map (T := fun q => t ≤ q ∧ q < w'.heap.size) (fun q hq => ⟨hq.1, Nat.lt_of_lt_of_le hq.2 hsz⟩) keep
  refine ⟨css ++ [[f, u, x]], Ss ++ [fun q => t ≤ q ∧ q < w'.heap.size], by simp [h.lc], by simp [h.ls], ?_, fun i h1 h2 h3 => ?_, fun i j hi hj hij q q1 q2 => ?_, fun i hi q hq => ?_⟩
  · rw [List.flatten_append, List.length_append]
    simpa using ho
  · have hlc := h.lc
    have hls := h.ls
    by_cases hil : i < l.length
    · rw [List.getElem_append_left (by omega), List.getElem_append_left (by omega), List.getElem_append_left hil]
      exact (h.each i hil (by omega) (by omega)).map (fun _ hq => hq) keep
    · have hie : i = l.length := by simp at h1; omega
      subst hie
      rw [List.getElem_append_right (by omega), List.getElem_append_right (by omega), List.getElem_append_right (by omega)]
      simp only [hlc, hls, Nat.sub_self, List.getElem_cons_zero]
      exact hnew
  · have hls := h.ls
    rw [List.length_append] at hi hj
    simp only [List.length_cons, List.length_nil] at hi hj
    by_cases hil : i < Ss.length <;> by_cases hjl : j < Ss.length
    · rw [List.getElem_append_left hil] at q1
      rw [List.getElem_append_left hjl] at q2
      exact h.apart i j hil hjl hij q q1 q2
    · rw [List.getElem_append_left hil] at q1
      have := h.low i hil q q1
      have hje : j = Ss.length := by omega
      subst hje
      have q3 : t ≤ q ∧ q < w'.heap.size := by simpa using q2
      omega
    · rw [List.getElem_append_left hjl] at q2
      have := h.low j hjl q q2
      have hie : i = Ss.length := by omega
      subst hie
      have q3 : t ≤ q ∧ q < w'.heap.size := by simpa using q1
      omega
    · omega
  · rw [List.length_append] at hi
    simp only [List.length_cons, List.length_nil] at hi
    by_cases hil : i < Ss.length
    · rw [List.getElem_append_left hil] at hq
      have := h.low i hil q hq
      omega
    · have hie : i = Ss.length := by omega
      subst hie
      have q3 : t ≤ q ∧ q < w'.heap.size := by simpa using hq
      exact q3.2
/-- A part's filter is written anew, in new memory. -/
theorem POwnT.setF {w : World} {base t g n cap : Nat} {f' : Value} {l : List Pt} {fs : Bxs} (h : POwnT w base t (.slice (some ⟨g, 0, none⟩) n cap) l) (i : Nat) (hi : i < l.length) (hf : FOwn w t f' fs) (hbt : base ≤ t) (htw : t ≤ w.heap.size) :
    POwnA (w.setCell ⟨g, i * 3, none⟩ f') base (.slice (some ⟨g, 0, none⟩) n cap) (l.set i ⟨fs, l[i].k⟩) ∧ ∃ cs, w.heap[g]? = some (Obj.cells cs 33 (0, 0)) ∧ base ≤ g := by
  obtain ⟨css, Ss, h⟩ := h
  have hlc := h.lc
  have hls := h.ls
  obtain ⟨f, u, x, us, e1, e2, e3, e4, e5, e6, e7, e8, e9⟩ := h.each i hi (by omega) (by omega)
  have hrow := h.row
  obtain ⟨hlen, h3⟩ := h.row
  rcases h3 with ⟨h3, -⟩ | ⟨g', cap', cur, hv, hbg, hg, hnc, hcm, hcs, htake⟩
  · simp at h3
  simp only [Value.slice.injEq, Option.some.injEq, Addr.mk.injEq, and_true] at hv
  obtain ⟨rfl, rfl, rfl⟩ := hv
  have hsw : (w.setCell ⟨g, i * 3, none⟩ f').heap.size = w.heap.size := by simp
  have keep : ∀ (b e size n : Nat) (y : Value) (xs : List Value), (e = 57 ∨ e = 60 ∨ e = 3 ∨ e = 27) → w.ownsRow b e size y n xs → (w.setCell ⟨g, i * 3, none⟩ f').ownsRow b e size y n xs := by
    intro b e size n y xs he hr
    refine own_set hr hg ?_
    rcases he with rfl | rfl | rfl | rfl <;> decide
  have h8 : ∀ c ∈ css, c.length = 3 := fun c hc => by
    obtain ⟨j, hj, rfl⟩ := List.mem_iff_getElem.1 hc
    obtain ⟨_, _, _, _, q, -⟩ := h.each j (by omega) hj (by omega)
    rw [q]; rfl
  obtain ⟨us2, f1, f2, f3⟩ := hf
  refine ⟨⟨css.set i [f', u, x], Ss.set i (fun q => Ss[i] q ∨ (t ≤ q ∧ q < w.heap.size)), by simp [hlc], by simp [hls], ?_, fun j h1 h2 h3 => ?_, fun a b ha hb hab q q1 q2 => ?_, fun j hj q hq => ?_⟩, _, hg, hbg⟩
  · rw [List.length_set, flatten_set3 h8 i f f' u x (by rw [List.getElem?_eq_getElem (by omega), e1])]
    refine ⟨by rw [List.length_set]; exact hlen, .inr ⟨g, cap, cur.setIfInBounds (i * 3) f', rfl, hbg, heap_set_same hg, hnc, hcm, by rw [Array.size_setIfInBounds]; exact hcs, ?_⟩⟩
    rw [Array.toList_setIfInBounds, List.take_set, htake]
  · rw [List.length_set] at h1 h2 h3
    by_cases hij : j = i
    · subst hij
      simp only [List.getElem_set_self]
      refine ⟨f', u, x, us2, rfl, f1, keep _ _ _ _ _ _ (.inl rfl) (owns_mono f2 hbt), fun k a b => keep _ _ _ _ _ _ (.inr (.inl rfl)) (owns_mono (f3 k a b) hbt), ⟨keep _ _ _ _ _ _ (.inr (.inr (.inl rfl))) e5.vec, keep _ _ _ _ _ _ (.inr (.inr (.inr rfl))) e5.more⟩, fun q hq => .inr (f2.lt q hq), fun y hy q hq => ?_, fun q hq => .inl (e8 q hq), fun q hq => .inl (e9 q hq)⟩
      obtain ⟨k, hk, rfl⟩ := List.mem_iff_getElem.1 hy
      exact .inr ((f3 k (by omega) hk).lt q hq)
    · rw [List.getElem_set_ne (by omega), List.getElem_set_ne (by omega), List.getElem_set_ne (by omega)]
      exact (h.each j h1 h2 h3).map (fun _ hq => hq) (keep _)
  · have ha' : a < Ss.length := by rwa [List.length_set] at ha
    have hb' : b < Ss.length := by rwa [List.length_set] at hb
    by_cases hai : a = i
    · subst hai
      rw [List.getElem_set_ne (by omega)] at q2
      simp only [List.getElem_set_self] at q1
      rcases q1 with q1 | q1
      · exact h.apart a b ha' hb' hab q q1 q2
      · have := h.low b hb' q q2; omega
    · rw [List.getElem_set_ne (by omega)] at q1
      by_cases hbi : b = i
      · subst hbi
        simp only [List.getElem_set_self] at q2
        rcases q2 with q2 | q2
        · exact h.apart a b ha' hb' hab q q1 q2
        · have := h.low a ha' q q1; omega
      · rw [List.getElem_set_ne (by omega)] at q2
        exact h.apart a b ha' hb' hab q q1 q2
  · have hj' : j < Ss.length := by rwa [List.length_set] at hj
    rw [hsw]
    by_cases hij : j = i
    · subst hij
      simp only [List.getElem_set_self] at hq
      rcases hq with hq | hq
      · have := h.low j hj' q hq; omega
      · exact hq.2
    · rw [List.getElem_set_ne (by omega)] at hq
      have := h.low j hj' q hq; omega
theorem POwnA.cellF {w : World} {base n cap : Nat} {a : Option Addr} {l : List Pt} (h : POwnA w base (.slice a n cap) l) (i : Nat) (hi : i < l.length) : ∃ g f, a = some ⟨g, 0, none⟩ ∧ w.cell? ⟨g, i * 3, none⟩ = some f ∧ FOwn w base f l[i].f := h.own.cellF i hi
/-- What the parts say, each in memory of its own. -/
def PtsOwnA (w : World) (base : Nat) (v : Value) (S : List SP) : Prop := ∃ l : List Pt, POwnA w base v l ∧ (∀ p ∈ l, PtOk p ∧ p.f.length ≤ 16) ∧ l.map sem = S
theorem PtsOwnA.below {w w' : World} {base : Nat} {v : Value} {S : List SP} (h : PtsOwnA w base v S) (hb : Below w.heap.size w w') : PtsOwnA w' base v S := by
  obtain ⟨l, h1, h2⟩ := h; exact ⟨l, h1.below hb, h2⟩
theorem PtsOwnA.mono {w : World} {base base' : Nat} {v : Value} {S : List SP} (h : PtsOwnA w base v S) (hb : base' ≤ base) : PtsOwnA w base' v S := by
  obtain ⟨l, h1, h2⟩ := h; exact ⟨l, h1.mono hb, h2⟩
theorem PtsOwnA.shape {w : World} {base : Nat} {v : Value} {S : List SP} (h : PtsOwnA w base v S) : ∃ a c, v = .slice a S.length c := by
  obtain ⟨l, h1, -, rfl⟩ := h; obtain ⟨a, c, hv⟩ := h1.shape; exact ⟨a, c, by rw [List.length_map]; exact hv⟩
end Go.Proofs.Ytboakoipdfmpcaa
