/- Parts of the call's own in memory. What part.Copied does. Written by a small program (gen/pcopy.py). What part.under, part.none and filter.Plain do. What part.Few does. What slices.Grow and slices.Concat do at []reedmace/api.Part. Printed by a small program (gen/concat.py). What part.Join and part.Narrow do. -/
import Derived.Test.YthnkmjjldggecaaMPart1
import Derived.Test.YthnkmjjldggecaaMElt
import Derived.Test.YthnkmjjldggecaaDots2
import Derived.Test.YthnkmjjldggecaaKnow10
import Derived.Test.YthnkmjjldggecaaMFilter4
import Derived.Test.YthnkmjjldggecaaMClaims
import Derived.Test.YthnkmjjldggecaaMKnow7
import Derived.Test.YthnkmjjldggecaaMClone
import Derived.Test.YthnkmjjldggecaaChecked
import Derived.Lib.AppendZeros
namespace Go.Proofs.Ythnkmjjldggecaa
open Go.RowKit
abbrev FOwn (w : World) (base : Nat) (v : Value) (l : Bxs) : Prop := BxsOwn w base 125 50 v l
/-- A row of another type is left. -/
theorem FOwn.other {w w' : World} {base b2 e2 s2 k : Nat} {v f : Value} {l : Bxs} {ys : List Value} (h : FOwn w base f l) (h2 : w.ownsRow b2 e2 s2 v k ys) (n1 : 125 ≠ e2) (n2 : 50 ≠ e2) (hg : w.grownBy w' v.ownBlock) : FOwn w' base f l := by
  obtain ⟨us, h3, h4, h5⟩ := h
  exact ⟨us, h3, own_kept2 h4 h2 n1 hg, fun i hi hi' => own_kept2 (h5 i hi hi') h2 n2 hg⟩
theorem FOwn.set {w : World} {base g j : Nat} {f u : Value} {l : Bxs} {cs : Array Value} {t : TypeId} {r : Nat × Nat} (h : FOwn w base f l) (hg : w.heap[g]? = some (Obj.cells cs t r)) (n1 : t ≠ 125) (n2 : t ≠ 50) : FOwn (w.setCell ⟨g, j, none⟩ u) base f l := by
  obtain ⟨us, h3, h4, h5⟩ := h
  exact ⟨us, h3, own_set h4 hg n1, fun i hi hi' => own_set (h5 i hi hi') hg n2⟩
theorem FOwn.mono {w : World} {base base' : Nat} {f : Value} {l : Bxs} (h : FOwn w base f l) (hb : base' ≤ base) : FOwn w base' f l := BxsOwn.mono h hb
theorem FOwn.at_ok {w : World} {base : Nat} {f : Value} {l : Bxs} (h : FOwn w base f l) (hc : fChk l = 0) : BxsAt w f l := by
  obtain ⟨h1, h2⟩ := fChk_zero.1 hc
  exact h.at_ (by omega) h2
/-- Parts whose filters and sets of dots are the call's own. -/
def PE (w : World) (base : Nat) : List Pt → List (List Value) → Prop
  | [], [] => True
  | p :: l, c :: cs => (∃ f u x : Value, c = [f, u, x] ∧ FOwn w base f p.f ∧ KnOwn w base u x p.k) ∧ PE w base l cs
  | _, _ => False
theorem PE.map {w w' : World} {base base' : Nat} (h : ∀ f u x (p : Pt), FOwn w base f p.f → KnOwn w base u x p.k → FOwn w' base' f p.f ∧ KnOwn w' base' u x p.k) : ∀ {l : List Pt} {cs : List (List Value)}, PE w base l cs → PE w' base' l cs
  | [], [], _ => trivial
  | p :: _, _ :: _, ⟨⟨f, u, x, h1, h2, h3⟩, h4⟩ => ⟨⟨f, u, x, h1, h f u x p h2 h3⟩, PE.map h h4⟩
  | [], _ :: _, h3 => h3.elim
  | _ :: _, [], h3 => h3.elim
theorem PE.snoc {w : World} {base : Nat} : ∀ {l : List Pt} {cs : List (List Value)} {p : Pt} {c : List Value}, PE w base l cs → PE w base [p] [c] → PE w base (l ++ [p]) (cs ++ [c])
  | [], [], _, _, _, k => k
  | _ :: _, _ :: _, _, _, h, k => ⟨h.1, PE.snoc h.2 k⟩
  | [], _ :: _, _, _, h, _ => h.elim
  | _ :: _, [], _, _, h, _ => h.elim
theorem PE.len {w : World} {base : Nat} : ∀ {l : List Pt} {cs : List (List Value)}, PE w base l cs → cs.length = l.length
  | [], [], _ => rfl
  | _ :: _, _ :: _, h => by simp [PE.len h.2]
  | [], _ :: _, h => h.elim
  | _ :: _, [], h => h.elim
theorem PE.els {w : World} {base : Nat} : ∀ {l : List Pt} {cs : List (List Value)}, PE w base l cs → (∀ p ∈ l, PtOk p) → Els partE w l cs
  | [], [], _, _ => trivial
  | p :: _, _ :: _, ⟨⟨f, u, x, h1, h2, h3⟩, h4⟩, hb => ⟨⟨f, u, x, h1, h2.at_ok (hb p (by simp)).f, h3.at_ ((knChk_zero.1 (hb p (by simp)).k).1.len) (by have := (knChk_zero.1 (hb p (by simp)).k).2; omega)⟩, PE.els h4 fun x hx => hb x (by simp [hx])⟩
  | [], _ :: _, h, _ => h.elim
  | _ :: _, [], h, _ => h.elim
theorem PE.get {w : World} {base : Nat} : ∀ {l : List Pt} {cs : List (List Value)} (_ : PE w base l cs) (i : Nat) (hi : i < l.length), ∃ f u x : Value, cs[i]? = some [f, u, x] ∧ FOwn w base f l[i].f ∧ KnOwn w base u x l[i].k
  | [], _, _, i, hi => by simp at hi
  | _ :: _, _ :: _, ⟨⟨f, u, x, h1, h2, h3⟩, _⟩, 0, _ => ⟨f, u, x, by simp [h1], h2, h3⟩
  | _ :: _, _ :: _, ⟨_, h4⟩, i + 1, hi => by
    obtain ⟨f, u, x, h1, h2, h3⟩ := PE.get h4 i (by simpa using hi)
    exact ⟨f, u, x, by simpa using h1, h2, h3⟩
  | _ :: _, [], h, _, _ => h.elim
theorem PE.set {w : World} {base : Nat} : ∀ {l : List Pt} {cs : List (List Value)} (_ : PE w base l cs) (i : Nat) (p : Pt) (f u x : Value), FOwn w base f p.f → KnOwn w base u x p.k → PE w base (l.set i p) (cs.set i [f, u, x])
  | [], [], _, _, _, _, _, _, _, _ => trivial
  | _ :: _, _ :: _, h, 0, p, f, u, x, k1, k2 => ⟨⟨f, u, x, rfl, k1, k2⟩, h.2⟩
  | _ :: _, _ :: _, h, i + 1, p, f, u, x, k1, k2 => ⟨h.1, PE.set h.2 i p f u x k1 k2⟩
  | [], _ :: _, h, _, _, _, _, _, _, _ => h.elim
  | _ :: _, [], h, _, _, _, _, _, _, _ => h.elim
/-- Parts of the call's own. -/
def POwn (w : World) (base : Nat) (v : Value) (l : List Pt) : Prop := ∃ css, PE w base l css ∧ w.ownsRow base 83 3 v l.length css.flatten
theorem POwn.nil (w : World) (base : Nat) : POwn w base (.slice none 0 0) [] := ⟨[], trivial, World.ownsRow_nil _ _ _ _⟩
theorem POwn.below {w w' : World} {base : Nat} {v : Value} {l : List Pt} (h : POwn w base v l) (hb : Below w.heap.size w w') : POwn w' base v l := by
  obtain ⟨css, h1, h2⟩ := h; exact ⟨css, h1.map fun _ _ _ _ h k => ⟨h.below hb, k.below hb⟩, owns_below h2 hb⟩
theorem POwn.mono {w : World} {base base' : Nat} {v : Value} {l : List Pt} (h : POwn w base v l) (hb : base' ≤ base) : POwn w base' v l := by
  obtain ⟨css, h1, h2⟩ := h; exact ⟨css, h1.map fun _ _ _ _ h k => ⟨h.mono hb, k.mono hb⟩, owns_mono h2 hb⟩
theorem POwn.shape {w : World} {base : Nat} {v : Value} {l : List Pt} (h : POwn w base v l) : ∃ a c, v = .slice a l.length c := by
  obtain ⟨css, -, h2⟩ := h; exact owns_slice h2
theorem POwn.at_ {w : World} {base : Nat} {v : Value} {l : List Pt} (h : POwn w base v l) (hok : ∀ p ∈ l, PtOk p) (hl : l.length ≤ 1000) : RowAt partE w v l := by
  obtain ⟨css, h1, h2⟩ := h
  exact ⟨css, h1.els hok, CellsAt.of_owns h2 (by omega)⟩
/-- An append of one part of the call's own. -/
theorem POwn.push {w w' : World} {base : Nat} {v v' f u x : Value} {l : List Pt} {css : List (List Value)} {p : Pt} (h1 : PE w base l css) (h2 : w.ownsRow base 83 3 v l.length css.flatten) (hf : FOwn w base f p.f) (hk : KnOwn w base u x p.k)
    (ho : w'.ownsRow base 83 3 v' (l.length + 1) (css.flatten ++ [f, u, x])) (hg : w.grownBy w' v.ownBlock) : POwn w' base v' (l ++ [p]) := by
  have hF : ∀ f (l : Bxs), FOwn w base f l → FOwn w' base f l := fun f l h => h.other h2 (by decide) (by decide) hg
  have hK : ∀ u x (k : Kn), KnOwn w base u x k → KnOwn w' base u x k := fun u x k h => ⟨own_kept2 h.vec h2 (by decide) hg, own_kept2 h.more h2 (by decide) hg⟩
  refine ⟨css ++ [[f, u, x]], PE.snoc (h1.map fun f u x p h k => ⟨hF _ _ h, hK _ _ _ k⟩) ⟨⟨f, u, x, rfl, hF _ _ hf, hK _ _ _ hk⟩, trivial⟩, ?_⟩
  rw [List.flatten_append, List.length_append]
  simpa using ho
theorem flatten_set3 : ∀ {css : List (List Value)} (_ : ∀ c ∈ css, c.length = 3) (i : Nat) (f f' u x : Value), css[i]? = some [f, u, x] → (css.set i [f', u, x]).flatten = css.flatten.set (i * 3) f'
  | [], _, i, _, _, _, _, h => by simp at h
  | c :: css, hl, 0, f, f', u, x, h => by
    simp only [List.getElem?_cons_zero, Option.some.injEq] at h
    subst h; rfl
  | c :: css, hl, i + 1, f, f', u, x, h => by
    have hc := hl c (by simp)
    have ih := flatten_set3 (css := css) (fun d hd => hl d (by simp [hd])) i f f' u x (by simpa using h)
    rw [List.set_cons_succ, List.flatten_cons, ih, List.flatten_cons, List.set_append_right _ _ (by omega), hc]
    congr 2; omega
theorem flatten_get3 : ∀ {css : List (List Value)} (_ : ∀ c ∈ css, c.length = 3) (q : Nat) (f u x : Value), css[q]? = some [f, u, x] → css.flatten[q * 3]? = some f
  | [], _, q, f, u, x, h => by simp at h
  | c :: css, hl, 0, f, u, x, h => by
    simp only [List.getElem?_cons_zero, Option.some.injEq] at h
    subst h; simp
  | c :: css, hl, q + 1, f, u, x, h => by
    have hc := hl c (by simp)
    rw [List.flatten_cons, List.getElem?_append_right (by omega), hc, show (q + 1) * 3 - 3 = q * 3 by omega]
    exact flatten_get3 (fun d hd => hl d (by simp [hd])) q f u x (by simpa using h)
theorem PE.lens {w : World} {base : Nat} : ∀ {l : List Pt} {cs : List (List Value)}, PE w base l cs → ∀ c ∈ cs, c.length = 3
  | [], [], _ => by simp
  | _ :: _, _ :: _, ⟨⟨f, u, x, h1, _⟩, h4⟩ => by
    intro d hd
    rcases List.mem_cons.1 hd with rfl | hd
    · rw [h1]; rfl
    · exact PE.lens h4 d hd
  | [], _ :: _, h => h.elim
  | _ :: _, [], h => h.elim
/-- A part's filter is written anew. -/
theorem POwn.setF {w : World} {base g n cap : Nat} {f' : Value} {l : List Pt} {fs : Bxs} (h : POwn w base (.slice (some ⟨g, 0, none⟩) n cap) l) (i : Nat) (hi : i < l.length) (hf : FOwn w base f' fs) :
    POwn (w.setCell ⟨g, i * 3, none⟩ f') base (.slice (some ⟨g, 0, none⟩) n cap) (l.set i ⟨fs, l[i].k⟩) ∧ ∃ cs, w.heap[g]? = some (Obj.cells cs 83 (0, 0)) ∧ base ≤ g := by
  obtain ⟨css, h1, h2⟩ := h
  obtain ⟨f, u, x, e1, -, e3⟩ := h1.get i hi
  obtain ⟨hlen, h3⟩ := h2
  rcases h3 with ⟨h3, -⟩ | ⟨g', cap', cur, hv, hbg, hg, hnc, hcm, hcs, htake⟩
  · simp at h3
  simp only [Value.slice.injEq, Option.some.injEq, Addr.mk.injEq, and_true] at hv
  obtain ⟨rfl, rfl, rfl⟩ := hv
  refine ⟨⟨css.set i [f', u, x], ?_, ?_⟩, _, hg, hbg⟩
  · refine PE.set (h1.map fun _ _ _ _ h k => ⟨h.set hg (by decide) (by decide), own_set k.vec hg (by decide), own_set k.more hg (by decide)⟩) i ⟨fs, l[i].k⟩ f' u x (hf.set hg (by decide) (by decide)) ⟨own_set e3.vec hg (by decide), own_set e3.more hg (by decide)⟩
  · rw [List.length_set, flatten_set3 h1.lens i f f' u x e1]
    refine ⟨by rw [List.length_set]; exact hlen, .inr ⟨g, cap, cur.setIfInBounds (i * 3) f', rfl, hbg, heap_set_same hg, hnc, hcm, by rw [Array.size_setIfInBounds]; exact hcs, ?_⟩⟩
    rw [Array.toList_setIfInBounds, List.take_set, htake]
/-- The i-th part of a row of the call's own: where its filter stands. -/
theorem POwn.cellF {w : World} {base n cap : Nat} {a : Option Addr} {l : List Pt} (h : POwn w base (.slice a n cap) l) (i : Nat) (hi : i < l.length) : ∃ g f, a = some ⟨g, 0, none⟩ ∧ w.cell? ⟨g, i * 3, none⟩ = some f ∧ FOwn w base f l[i].f := by
  obtain ⟨css, hpe, hrow⟩ := h
  obtain ⟨f1, u1, x1, hcs, hfo, hko⟩ := hpe.get i hi
  rcases hrow.2 with ⟨h3, h4⟩ | ⟨g, cap2, cur, hv, hbg, hg, -⟩
  · omega
  · simp only [Value.slice.injEq] at hv
    obtain ⟨rfl, rfl, rfl⟩ := hv
    refine ⟨g, f1, rfl, ?_, hfo⟩
    have := hrow.cells (g := g) rfl (i * 3) f1 (flatten_get3 hpe.lens i f1 u1 x1 hcs)
    rwa [Addr.add_lit, Nat.zero_add] at this
/-- What the parts say. -/
def PtsSem (w : World) (v : Value) (S : List SP) : Prop := ∃ l : List Pt, RowAt partE w v l ∧ (∀ p ∈ l, PtOk p) ∧ l.map sem = S
theorem PtsSem.below {w w' : World} {v : Value} {S : List SP} (h : PtsSem w v S) (hb : Below w.heap.size w w') : PtsSem w' v S := by
  obtain ⟨l, h1, h2, h3⟩ := h; exact ⟨l, h1.below hb, h2, h3⟩
theorem PtsSem.sub {w w' : World} {v : Value} {S : List SP} (h : PtsSem w v S) (hb : Sub w w') : PtsSem w' v S := by
  obtain ⟨l, h1, h2, h3⟩ := h; exact ⟨l, h1.sub hb, h2, h3⟩
theorem PtsSem.shape {w : World} {v : Value} {S : List SP} (h : PtsSem w v S) : ∃ a c, v = .slice a S.length c := by
  obtain ⟨l, h1, -, rfl⟩ := h; obtain ⟨a, c, hv⟩ := h1.shape; exact ⟨a, c, by rw [List.length_map]; exact hv⟩
theorem PtsSem.ok {w : World} {v : Value} {S : List SP} (h : PtsSem w v S) : ∀ x ∈ S, SPOk x := by
  obtain ⟨l, -, h2, rfl⟩ := h
  intro x hx
  obtain ⟨p, hp, rfl⟩ := List.mem_map.1 hx
  exact (h2 p hp).sem
/-- Parts of the call's own that say S. -/
def PtsOwn (w : World) (base : Nat) (v : Value) (S : List SP) : Prop := ∃ l : List Pt, POwn w base v l ∧ (∀ p ∈ l, PtOk p ∧ p.f.length ≤ 16) ∧ l.map sem = S
theorem PtsOwn.below {w w' : World} {base : Nat} {v : Value} {S : List SP} (h : PtsOwn w base v S) (hb : Below w.heap.size w w') : PtsOwn w' base v S := by
  obtain ⟨l, h1, h2, h3⟩ := h; exact ⟨l, h1.below hb, h2, h3⟩
theorem PtsOwn.mono {w : World} {base base' : Nat} {v : Value} {S : List SP} (h : PtsOwn w base v S) (hb : base' ≤ base) : PtsOwn w base' v S := by
  obtain ⟨l, h1, h2, h3⟩ := h; exact ⟨l, h1.mono hb, h2, h3⟩
theorem PtsOwn.shape {w : World} {base : Nat} {v : Value} {S : List SP} (h : PtsOwn w base v S) : ∃ a c, v = .slice a S.length c := by
  obtain ⟨l, h1, -, rfl⟩ := h; obtain ⟨a, c, hv⟩ := h1.shape; exact ⟨a, c, by rw [List.length_map]; exact hv⟩
theorem PtsOwn.sem {w : World} {base : Nat} {v : Value} {S : List SP} (h : PtsOwn w base v S) (hl : S.length ≤ 1000) : PtsSem w v S := by
  obtain ⟨l, h1, h2, rfl⟩ := h; rw [List.length_map] at hl; exact ⟨l, h1.at_ (fun p hp => (h2 p hp).1) hl, fun p hp => (h2 p hp).1, rfl⟩
theorem PtsOwn.nil (w : World) (base : Nat) : PtsOwn w base (.slice none 0 0) [] := ⟨[], POwn.nil _ _, by simp, rfl⟩
end Go.Proofs.Ythnkmjjldggecaa
namespace Go.Proofs.Ythnkmjjldggecaa
open Go.RowKit
def CpF (w : World) (base : Nat) (v : Value) (l : Bxs) : Prop := ∃ (a : Option Addr) (c : Nat), v = .slice a l.length c ∧ FOwn w base (.slice a l.length c) l
theorem CpF.below {w w' : World} {base : Nat} {v : Value} {l : Bxs} (h : CpF w base v l) (hb : Below w.heap.size w w') : CpF w' base v l := by
  obtain ⟨a, c, h1, h2⟩ := h; exact ⟨a, c, h1, h2.below hb⟩
/-- A part of the call's own, as one value. -/
def CpP (w : World) (base : Nat) (v : Value) (p : Pt) : Prop := ∃ (a : Option Addr) (c : Nat) (b : Option Addr) (d : Nat) (e : Option Addr) (m : Nat), v = .agg #[.slice a p.f.length c, .slice b p.k.vec.length d, .slice e p.k.more.length m] ∧ FOwn w base (.slice a p.f.length c) p.f ∧ KnOwn w base (.slice b p.k.vec.length d) (.slice e p.k.more.length m) p.k
theorem CpP.below {w w' : World} {base : Nat} {v : Value} {p : Pt} (h : CpP w base v p) (hb : Below w.heap.size w w') : CpP w' base v p := by
  obtain ⟨a, c, b, d, e, m, h1, h2, h3⟩ := h; exact ⟨a, c, b, d, e, m, h1, h2.below hb, h3.below hb⟩
/-- .. in a block. -/
def CpB (w : World) (base : Nat) (v : Value) (p : Pt) : Prop := ∃ (g : Nat) (f u x : Value), v = .slice (some ⟨g, 0, none⟩) 1 1 ∧ w.heap[g]? = some (Obj.cells #[f, u, x] 83 (0, 0)) ∧ f.oneCell' = true ∧ u.oneCell' = true ∧ x.oneCell' = true ∧ FOwn w base f p.f ∧ KnOwn w base u x p.k
theorem CpB.below {w w' : World} {base : Nat} {v : Value} {p : Pt} (h : CpB w base v p) (hb : Below w.heap.size w w') : CpB w' base v p := by
  obtain ⟨g, f, u, x, h1, h2, h3, h4, h5, h6, h7⟩ := h; exact ⟨g, f, u, x, h1, below_keep hb h2, h3, h4, h5, h6.below hb, h7.below hb⟩
def CpR (w : World) (base : Nat) (v : Value) (l : List Pt) : Prop := ∃ (a : Option Addr) (c : Nat), v = .slice a l.length c ∧ POwn w base (.slice a l.length c) l
theorem CpR.below {w w' : World} {base : Nat} {v : Value} {l : List Pt} (h : CpR w base v l) (hb : Below w.heap.size w w') : CpR w' base v l := by
  obtain ⟨a, c, h1, h2⟩ := h; exact ⟨a, c, h1, h2.below hb⟩
structure PcSt (w : World) (BK : Nat) (ce : Array Value) (ov : Value) (lk : List Pt) (wr : World) : Prop where
  blk : wr.heap[BK]? = some (Obj.cells ce 83 (0, 0))
  own : POwn wr w.heap.size ov lk
  bel : Below w.heap.size w wr
theorem PcSt.below {w : World} {BK : Nat} {ce : Array Value} {ov : Value} {lk : List Pt} {wr wr' : World} (h : PcSt w BK ce ov lk wr) (hb : Below wr.heap.size wr wr') : PcSt w BK ce ov lk wr' :=
  ⟨below_keep hb h.blk, h.own.below hb, bstep h.bel hb⟩
theorem POwn.drew {w : World} {base : Nat} {v : Value} {l : List Pt} (h : POwn w base v l) : POwn w.drew base v l := h.below ((Below.refl _ _).drew)
theorem PcSt.drew {w : World} {BK : Nat} {ce : Array Value} {ov : Value} {lk : List Pt} {wr : World} (h : PcSt w BK ce ov lk wr) : PcSt w BK ce ov lk wr.drew := ⟨h.blk, h.own.drew, h.bel.drew⟩
set_option maxRecDepth 100000 in
set_option maxHeartbeats 8000000 in
theorem pcopied_c (v : Value) (l : List Pt) (w : World) (hv : RowAt partE w v l) (hok : ∀ x ∈ l, PtOk x) (hl : l.length ≤ 1000) :
    Calls Try.prog 116 #[v] w fun e w' => ∃ ov, e = .returned ov ∧ POwn w' w.heap.size ov l ∧ Below w.heap.size w w' := by
  obtain ⟨a, cap, rfl, hcap, hlen, -, hvl⟩ := hv.open_
  have HVL := Lib.hid hvl
  have HOK := Lib.hid hok
  clear hv hvl hok
  go_enter Try.func116, Try.ntmps116
  go_wp2
  go_loopw [3, 8] (fun ov i wr => ∃ k : Nat, k ≤ l.length ∧ i = .int .i64 k ∧ POwn wr w.heap.size ov (l.take k) ∧ Below w.heap.size w wr) (fun _ i _ => l.length - (intOf i).toNat)
  case atStart => exact ⟨0, Nat.zero_le _, rfl, POwn.nil _ _, Below.refl _ _⟩
  case round =>
    obtain ⟨k, hk, rfl, hown, hbl⟩ := hrel
    have HOW := Lib.hid hown
    have HBL := Lib.hid hbl
    clear hown hbl
    by_cases hlt : k < l.length
    · rcases HVL.out with hnil | ⟨b, off, rfl, hb, hc⟩
      · rw [hnil] at hlt; simp at hlt
      obtain ⟨c, hE, hcc⟩ := hc k hlt
      obtain ⟨FF, UU, XX, rfl, hfw, hkw⟩ := hE
      have hcl := fun (j : Nat) (y : Value) (hy : [FF, UU, XX][j]? = some y) => row3 (w := wr) (b := b) (off := off) (i := k) (fun j y hy => (HBL.out.cell (p := ⟨b, off + (k * partE.size + j), none⟩) hb).trans (hcc j y hy)) hy
      have d0 := hcl 0 _ rfl
      have d1 := hcl 1 _ rfl
      have d2 := hcl 2 _ rfl
      rw [Nat.add_zero] at d0
      obtain ⟨fa, fc, rfl⟩ := hfw.shape
      obtain ⟨ua, uc, rfl⟩ := hkw.vec.shape
      obtain ⟨xa, xc, rfl⟩ := hkw.more.shape
      have HT := Lib.hid (show l.take (k + 1) = l.take k ++ [l[k]] from List.take_succ_eq_append_getElem hlt)
      have htl : (l.take k).length = k := by rw [List.length_take]; omega
      have hpk := HOK.out _ (List.getElem_mem hlt)
      have HFC := Lib.hid hpk.f
      obtain ⟨hko, hk60⟩ := knChk_zero.1 hpk.k
      have hk5 := hko.len
      obtain ⟨BK, hBK⟩ : ∃ BK, BK = wr.heap.size := ⟨_, rfl⟩
      obtain ⟨w1, hw1⟩ : ∃ w1, w1 = wr.alloc (.cells #[.slice fa l[k].f.length fc, .slice ua l[k].k.vec.length uc, .slice xa l[k].k.more.length xc] 83) := ⟨_, rfl⟩
      have hb1 : Below wr.heap.size wr w1 := by rw [hw1]; exact bal _
      have HS := Lib.hid (show PcSt w BK #[.slice fa l[k].f.length fc, .slice ua l[k].k.vec.length uc, .slice xa l[k].k.more.length xc] _ (l.take k) w1 from ⟨by rw [hw1]; exact alloc_new _ _ _ _ hBK, HOW.out.below hb1, bstep HBL.out hb1⟩)
      have HFW := Lib.hid hfw
      have HKW := Lib.hid hkw
      obtain ⟨oa, oc, hoo⟩ := HOW.out.shape
      rw [htl] at hoo
      subst hoo
      clear hc hcc hcl hfw hkw hb1 HOW HBL hpk hko
      generalize l[k] = pp at *
      generalize l.take k = lk at *
      subst htl
      obtain ⟨ff, kk⟩ := pp
      simp only at *
      go_wp2_with fail
      rw [← hBK, ← hw1]
      clear hBK hw1 d0 d1 d2
      refine Cl.region0 24 rfl [9] (fun ww => PcSt w BK #[.slice fa ff.length fc, .slice ua kk.vec.length uc, .slice xa kk.more.length xc] (.slice oa lk.length oc) lk ww) (fun jq => match jq with | 3 => [9] | 6 => [9] | 7 => [9] | 8 => [9] | _ => []) (fun jq v ww => match jq with | 0 => v = .slice oa lk.length oc | 1 => v = .pointer (some ⟨BK, 0, none⟩) | 2 => v = .slice fa ff.length fc | 3 => CpF ww w.heap.size v ff | 4 => v = .pointer (some ⟨BK, 1, none⟩) | 5 => v = .agg #[.slice ua kk.vec.length uc, .slice xa kk.more.length xc] | 6 => CpK ww w.heap.size v kk | 7 => CpP ww w.heap.size v ⟨ff, kk⟩ | 8 => CpB ww w.heap.size v ⟨ff, kk⟩ | 9 => CpR ww w.heap.size v (lk ++ [⟨ff, kk⟩]) | 10 => CpR ww w.heap.size v (lk ++ [⟨ff, kk⟩]) | _ => True) (fun ww => Below w.heap.size w ww) (fun jq ww ww' => jq ≠ 9 → Below ww.heap.size ww ww') Try.mixed (by decide +kernel) HS.out.drew.bel HS.out.drew ?_ (fun jq ww ww' hk h hR => h.below (hR (by simpa using hk))) ?_ ?_
      · intro q r v w w' hne hk hlt h hR
        match r, hk, hlt, h, hne with
        | 0, _, _, h, _ => exact h
        | 1, _, _, h, _ => exact h
        | 2, _, _, h, _ => exact h
        | 3, hk, _, h, _ => exact CpF.below h (hR (by simpa using hk))
        | 4, _, _, h, _ => exact h
        | 5, _, _, h, _ => exact h
        | 6, hk, _, h, _ => exact CpK.below h (hR (by simpa using hk))
        | 7, hk, _, h, _ => exact CpP.below h (hR (by simpa using hk))
        | 8, hk, _, h, _ => exact CpB.below h (hR (by simpa using hk))
        | 9, _, _, h, hne => exact CpR.below h (hR (by exact hne))
        | 10, _, hlt, h, _ => exact CpR.below h (hR (by intro e; subst e; exact absurd hlt (by decide +kernel)))
        | _ + 11, _, _, _, _ => trivial
      · refine ⟨?_, ?_, ?_, ?_, ?_, ?_, ?_, ?_, ?_, ?_, ?_, trivial⟩
        · intro x wx hG
          have f3 := hG.old 3 (by decide +kernel)
          have hp := hG.pre (by decide +kernel)
          have hg := hG.good
          clear hG
          go_wp2
          exact ⟨_, rfl, rfl, hg, fun _ => Below.refl _ _⟩
        · intro x wx hG
          have f5 := hG.old 5 (by decide +kernel)
          have hp := hG.pre (by decide +kernel)
          have hg := hG.good
          clear hG
          go_wp2
          exact ⟨_, rfl, rfl, hg, fun _ => Below.refl _ _⟩
        · intro x wx hG
          have g1 : (x.tmps.getD 13 undef) = .pointer (some ⟨BK, 0, none⟩) := hG.claims 1 _ rfl (by decide +kernel) (by decide +kernel)
          have hp := hG.pre (by decide +kernel)
          have hg := hG.good
          clear hG
          have hbk := hp.blk
          have c0 := cell_of_block (j := 0) hbk rfl
          have hbkl := hlt_of hbk
          clear hbk hp
          go_wp2
          exact ⟨_, rfl, rfl, hg, fun _ => Below.refl _ _⟩
        · intro x wx hG
          have g2 : (x.tmps.getD 14 undef) = .slice fa ff.length fc := hG.claims 2 _ rfl (by decide +kernel) (by decide +kernel)
          have hp := hG.pre (by decide +kernel)
          have hg := hG.good
          clear hG
          have HX := Lib.hid (copied_c (.slice fa ff.length fc) ff wx (HFW.out.below hp.bel) HFC.out)
          have HPB := Lib.hid hp.bel
          clear hp
          go_wp2_with fail
          (with_reducible refine (HX.out).mono ?_)
          rintro e wq ⟨v9, rfl, h9, hb⟩
          obtain ⟨za, zc, hz⟩ := h9.shape
          subst hz
          have H9 := Lib.hid (BxsOwn.mono h9 HPB.out.size)
          clear h9
          go_wp2
          exact ⟨_, rfl, ⟨_, _, rfl, H9.out⟩, bstep hg hb, fun _ => hb⟩
        · intro x wx hG
          have f5 := hG.old 5 (by decide +kernel)
          have hp := hG.pre (by decide +kernel)
          have hg := hG.good
          clear hG
          go_wp2
          exact ⟨_, rfl, rfl, hg, fun _ => Below.refl _ _⟩
        · intro x wx hG
          have g4 : (x.tmps.getD 16 undef) = .pointer (some ⟨BK, 1, none⟩) := hG.claims 4 _ rfl (by decide +kernel) (by decide +kernel)
          have hp := hG.pre (by decide +kernel)
          have hg := hG.good
          clear hG
          have hbk := hp.blk
          have c1 := cell_of_block (j := 1) hbk rfl
          have c2 := cell_of_block (j := 2) hbk rfl
          have hbkl := hlt_of hbk
          clear hbk hp
          go_wp2
          exact ⟨_, rfl, rfl, hg, fun _ => Below.refl _ _⟩
        · intro x wx hG
          have g5 : (x.tmps.getD 17 undef) = .agg #[.slice ua kk.vec.length uc, .slice xa kk.more.length xc] := hG.claims 5 _ rfl (by decide +kernel) (by decide +kernel)
          have hp := hG.pre (by decide +kernel)
          have hg := hG.good
          clear hG
          have HX := Lib.hid (kcopied_c (.slice ua kk.vec.length uc) (.slice xa kk.more.length xc) kk wx (HKW.out.below hp.bel) hk5 hk60)
          have HPB := Lib.hid hp.bel
          clear hp
          go_wp2_with fail
          (with_reducible refine (HX.out).mono ?_)
          rintro e wq ⟨qa, qc, qb, qd, rfl, h9, hb⟩
          have H9 := Lib.hid (h9.mono HPB.out.size)
          clear h9
          go_wp2
          exact ⟨_, rfl, ⟨_, _, _, _, rfl, H9.out⟩, bstep hg hb, fun _ => hb⟩
        · intro x wx hG
          have g3 : CpF wx w.heap.size (x.tmps.getD 15 undef) ff := hG.claims 3 _ rfl (by decide +kernel) (by decide +kernel)
          have g6 : CpK wx w.heap.size (x.tmps.getD 18 undef) kk := hG.claims 6 _ rfl (by decide +kernel) (by decide +kernel)
          have hp := hG.pre (by decide +kernel)
          have hg := hG.good
          clear hG
          obtain ⟨za, zc, hz1, hz2⟩ := g3
          obtain ⟨ya, yc, yb, yd, hy1, hy2⟩ := g6
          have hz1b := hz1
          rw [Array.getD_eq_getD_getElem?] at hz1b
          have hy1b := hy1
          rw [Array.getD_eq_getD_getElem?] at hy1b
          have HZ := Lib.hid hz2
          have HY := Lib.hid hy2
          clear hz2 hy2 hp
          go_wp2
          exact ⟨_, rfl, ⟨_, _, _, _, _, _, rfl, HZ.out, HY.out⟩, hg, fun _ => Below.refl _ _⟩
        · intro x wx hG
          have g7 : CpP wx w.heap.size (x.tmps.getD 19 undef) ⟨ff, kk⟩ := hG.claims 7 _ rfl (by decide +kernel) (by decide +kernel)
          have hp := hG.pre (by decide +kernel)
          have hg := hG.good
          clear hG
          obtain ⟨a1, a2, a3, a4, a5, a6, hz1, hz2, hz3⟩ := g7
          have hz1b := hz1
          rw [Array.getD_eq_getD_getElem?] at hz1b
          have HZ := Lib.hid hz2
          have HY := Lib.hid hz3
          clear hz2 hz3 hp
          go_wp2
          exact ⟨_, rfl, ⟨_, _, _, _, rfl, alloc_new _ _ _ _ rfl, rfl, rfl, rfl, HZ.out.below (bal _), HY.out.below (bal _)⟩, hg.alloc hg.size _, fun _ => bal _⟩
        · intro x wx hG
          have g0 : (x.tmps.getD 12 undef) = .slice oa lk.length oc := hG.claims 0 _ rfl (by decide +kernel) (by decide +kernel)
          have g8 : CpB wx w.heap.size (x.tmps.getD 20 undef) ⟨ff, kk⟩ := hG.claims 8 _ rfl (by decide +kernel) (by decide +kernel)
          have hp := hG.pre (by decide +kernel)
          have hg := hG.good
          clear hG
          obtain ⟨g9, f9, u9, x9, hz1, hz2, o1, o2, o3, hz3, hz4⟩ := g8
          obtain ⟨css, hp1, hp2⟩ := hp.own
          have hz := g0
          have hzb := hz
          rw [Array.getD_eq_getD_getElem?] at hzb
          have hz1b := hz1
          rw [Array.getD_eq_getD_getElem?] at hz1b
          have H9 := Lib.hid hp2
          have HE := Lib.hid hp1
          have HF := Lib.hid hz3
          have HK := Lib.hid hz4
          have HON := Lib.hid (show ∀ u ∈ [f9, u9, x9], u.oneCell' = true by intro u hu; simp only [List.mem_cons, List.not_mem_nil, or_false] at hu; rcases hu with rfl | rfl | rfl; exact o1; exact o2; exact o3)
          have HC := Lib.hid (show CellsAt wx (.slice (some ⟨g9, 0, none⟩) 1 1) 1 [f9, u9, x9] from CellsAt.mk (Nat.le_refl _) (by decide) (hlt_of hz2) (fun j z hj => by rw [Nat.zero_add]; exact cell_of_block hz2 (by simpa using hj)))
          have HPB := Lib.hid hp.bel
          have hbs := hp.bel.size
          have hkl : lk.length ≤ 1000 := by omega
          clear hp1 hp2 hz2 hz3 hz4 hp
          go_wp2_with (at_builtin; refine wpList_append_cells2 rfl (.tmp 12) (.tmp 20) 62 rfl w.heap.size 83 _ 3 72 Try.underlying62 PartTy.info rfl (by decide) (.slice oa lk.length oc) lk.length _ hz H9.out (.slice (some ⟨g9, 0, none⟩) 1 1) 1 _ hz1 HC.out rfl HON.out hbs (by unfold maxLen; omega) (by omega) ?_)
          intro v' wq ho hgr
          obtain ⟨qa, qc, hq⟩ := owns_slice ho
          subst hq
          have HO := Lib.hid ho
          have HGR := Lib.hid hgr
          clear ho hgr
          go_wp2
          exact ⟨_, rfl, ⟨_, _, by rw [List.length_append]; rfl, by rw [List.length_append]; exact POwn.push HE.out H9.out HF.out HK.out HO.out HGR.out⟩, hg.grown HGR.out hbs (fun k hk => (H9.out.lt k hk).1), fun h => absurd rfl h⟩
        · intro x wx hG
          have g9 : CpR wx w.heap.size (x.tmps.getD 21 undef) (lk ++ [⟨ff, kk⟩]) := hG.claims 9 _ rfl (by decide +kernel) (by decide +kernel)
          have hg := hG.good
          clear hG
          obtain ⟨za, zc, hz, h9⟩ := g9
          have H9 := Lib.hid h9
          clear h9
          go_wp2
          exact ⟨_, rfl, ⟨_, _, by simp, H9.out⟩, hg, fun _ => Below.refl _ _⟩
      · intro vals w3 hg hF
        obtain ⟨g0, g1, g2, g3, g4, g5, g6, g7, g8, g9, g10, -⟩ := hF
        have e0 : vals 0 = .slice oa lk.length oc := g0 rfl
        have e1 : vals 1 = .pointer (some ⟨BK, 0, none⟩) := g1 rfl
        have e2 : vals 2 = .slice fa ff.length fc := g2 rfl
        have e4 : vals 4 = .pointer (some ⟨BK, 1, none⟩) := g4 rfl
        have e5 : vals 5 = .agg #[.slice ua kk.vec.length uc, .slice xa kk.more.length xc] := g5 rfl
        replace g10 : CpR w3 w.heap.size (vals 10) (lk ++ [⟨ff, kk⟩]) := g10 rfl
        simp only [Cl.puts, e0, e1, e2, e4, e5]
        clear e0 e1 e2 e4 e5 g0 g1 g2 g3 g4 g5 g6 g7 g8 g9
        go_simp
        generalize vals 10 = ov2 at *
        obtain ⟨a8, c8, rfl, h8⟩ := g10
        have H8 := Lib.hid h8
        have HB8 := Lib.hid hg
        have hll : (lk ++ [(⟨ff, kk⟩ : Pt)]).length = lk.length + 1 := by rw [List.length_append]; rfl
        rw [hll] at H8 ⊢
        clear h8 hg
        go_wp2
        go_roundw
        case rel => exact ⟨lk.length + 1, by omega, by go_num, by rw [HT.out]; exact H8.out, HB8.out⟩
        case measure => simp [intOf] <;> omega
    · obtain rfl : k = l.length := by omega
      rw [List.take_length] at HOW
      obtain ⟨oa, oc, hoo⟩ := HOW.out.shape
      subst hoo
      go_wp2
      go_ret
      exact ⟨_, rfl, HOW.out, HBL.out⟩
end Go.Proofs.Ythnkmjjldggecaa
namespace Go.Proofs.Ythnkmjjldggecaa
open Go.RowKit
theorem within_sem {a b : Pt} (ha : PtOk a) (hb : PtOk b) : (withinE a.f b.f && knWithinB a.k b.k) = underS (sem a) (sem b) := by
  unfold withinE knWithinB underS sem
  rw [if_pos (by unfold fTwo; rw [if_pos ha.f, hb.f]), if_pos (knTwo_zero.2 ⟨ha.k, hb.k⟩)]
  congr 1
  refine allPt_congr fun t n ht hn => ?_
  simp only [ptsOf_in ht hn]
  cases inF a.f t n <;> cases inF b.f t n <;> rfl
set_option maxRecDepth 100000 in
set_option maxHeartbeats 2000000 in
theorem under_c (a b : Pt) (f u x g y z : Value) (w : World) (ha : PtOk a) (hb : PtOk b) (h1 : BxsAt w f a.f) (h2 : KnAt w u x a.k) (h3 : BxsAt w g b.f) (h4 : KnAt w y z b.k) :
    Calls Try.prog 154 #[.agg #[f, u, x], .agg #[g, y, z]] w fun e w' => e = .returned (.bool (underS (sem a) (sem b))) ∧ Below w.heap.size w w' := by
  obtain ⟨fa, fc, rfl⟩ := h1.shape
  obtain ⟨ua, uc, rfl⟩ := h2.vec.shape
  obtain ⟨xa, xc, rfl⟩ := h2.more.shape
  obtain ⟨ga, gc, rfl⟩ := h3.shape
  obtain ⟨ya, yc, rfl⟩ := h4.vec.shape
  obtain ⟨za, zc, rfl⟩ := h4.more.shape
  obtain ⟨W, hW⟩ : ∃ W, W = (w.alloc (.cells #[.slice fa a.f.length fc, .slice ua a.k.vec.length uc, .slice xa a.k.more.length xc] 83)).alloc (.cells #[.slice ga b.f.length gc, .slice ya b.k.vec.length yc, .slice za b.k.more.length zc] 83) := ⟨_, rfl⟩
  have hbel : Below w.heap.size w W := by rw [hW]; exact (bal _).alloc (by simp) _
  have A := Lib.hid (show W.heap[w.heap.size]? = some (Obj.cells #[.slice fa a.f.length fc, .slice ua a.k.vec.length uc, .slice xa a.k.more.length xc] 83 (0, 0)) by rw [hW]; exact alloc_keep _ (alloc_new _ _ _ _ rfl))
  have B := Lib.hid (show W.heap[w.heap.size + 1]? = some (Obj.cells #[.slice ga b.f.length gc, .slice ya b.k.vec.length yc, .slice za b.k.more.length zc] 83 (0, 0)) by rw [hW]; exact alloc_new _ _ _ _ (by simp))
  have a0 := cell_of_block (j := 0) A.out rfl
  have b0 := cell_of_block (j := 0) B.out rfl
  have HF := Lib.hid (withinf_c _ _ a.f b.f _ (h1.below hbel) (h3.below hbel))
  have HKA := Lib.hid (h2.below hbel)
  have HKB := Lib.hid (h4.below hbel)
  have HBEL := Lib.hid hbel
  have HS := Lib.hid (within_sem ha hb)
  have HT := Lib.hid (show fTwo a.f b.f = 0 by unfold fTwo; rw [if_pos ha.f, hb.f])
  have HT2 := Lib.hid (show knTwo a.k b.k = 0 from knTwo_zero.2 ⟨ha.k, hb.k⟩)
  clear h1 h2 h3 h4 hbel ha hb
  go_enter Try.func154, Try.ntmps154
  go_wp2_with fail
  rw [← hW]
  clear hW
  (with_reducible refine (HF.out).mono ?_)
  rintro e w1 ⟨rfl, hb1⟩
  replace A := Lib.hid (below_keep hb1 A.out)
  replace B := Lib.hid (below_keep hb1 B.out)
  have a1 := cell_of_block (j := 1) A.out rfl
  have a2 := cell_of_block (j := 2) A.out rfl
  have b1 := cell_of_block (j := 1) B.out rfl
  have b2 := cell_of_block (j := 2) B.out rfl
  have HK := Lib.hid (kwithin_c _ _ _ _ a.k b.k _ (HKA.out.below hb1) (HKB.out.below hb1))
  have HBL := Lib.hid (bstep HBEL.out hb1)
  clear hb1 HF HKA HKB HBEL a0 b0
  generalize withinE a.f b.f = we at *
  generalize fTwo a.f b.f = ft at *
  go_wp2_with fail
  (with_reducible refine (HK.out).mono ?_)
  rintro e w2 ⟨rfl, hb2⟩
  have hbl := bstep HBL.out hb2
  clear hb2 HBL HK a1 a2 b1 b2
  generalize knWithinB a.k b.k = ke at *
  generalize knTwo a.k b.k = kt at *
  cases we
  · go_wp2
    go_ret
    exact ⟨(by rw [← HS.out]; try rfl), hbl⟩
  · go_wp2
    go_ret
    exact ⟨(by rw [← HS.out]; try rfl), hbl⟩
theorem none_sem {a : Pt} (ha : PtOk a) : (decide (cntE a.f = 0) || decide (knCount a.k = 0)) = noneS (sem a) := by
  have e : cntF (fun x1 x2 => inF a.f x1 x2) = cntF (ptsOf a.f) := cntF_congr fun t n ht hn => (ptsOf_in ht hn).symm
  unfold cntE noneS sem
  rw [if_pos ha.f, e]
set_option maxRecDepth 100000 in
set_option maxHeartbeats 2000000 in
theorem none_c (a : Pt) (f u x : Value) (w : World) (ha : PtOk a) (h1 : BxsAt w f a.f) (h2 : KnAt w u x a.k) :
    Calls Try.prog 151 #[.agg #[f, u, x]] w fun e w' => e = .returned (.bool (noneS (sem a))) ∧ Below w.heap.size w w' := by
  obtain ⟨fa, fc, rfl⟩ := h1.shape
  obtain ⟨ua, uc, rfl⟩ := h2.vec.shape
  obtain ⟨xa, xc, rfl⟩ := h2.more.shape
  obtain ⟨W, hW⟩ : ∃ W, W = w.alloc (.cells #[.slice fa a.f.length fc, .slice ua a.k.vec.length uc, .slice xa a.k.more.length xc] 83) := ⟨_, rfl⟩
  have hbel : Below w.heap.size w W := by rw [hW]; exact bal _
  have A := Lib.hid (show W.heap[w.heap.size]? = some (Obj.cells #[.slice fa a.f.length fc, .slice ua a.k.vec.length uc, .slice xa a.k.more.length xc] 83 (0, 0)) by rw [hW]; exact alloc_new _ _ _ _ rfl)
  have a0 := cell_of_block (j := 0) A.out rfl
  have HF := Lib.hid (countf_c _ a.f _ (h1.below hbel))
  have HKA := Lib.hid (h2.below hbel)
  have HBEL := Lib.hid hbel
  have HS := Lib.hid (none_sem ha)
  clear h1 h2 hbel ha
  go_enter Try.func151, Try.ntmps151
  go_wp2_with fail
  rw [← hW]
  clear hW
  (with_reducible refine (HF.out).mono ?_)
  rintro e w1 ⟨rfl, hb1⟩
  replace A := Lib.hid (below_keep hb1 A.out)
  have a1 := cell_of_block (j := 1) A.out rfl
  have a2 := cell_of_block (j := 2) A.out rfl
  have HK := Lib.hid (knCount_c _ _ a.k _ (HKA.out.below hb1))
  have HBL := Lib.hid (bstep HBEL.out hb1)
  clear hb1 HF HKA HBEL a0
  generalize cntE a.f = we at *
  generalize fChk a.f = ft at *
  go_wp2_with fail
  (with_reducible refine (HK.out).mono ?_)
  rintro e w2 ⟨rfl, hb2⟩
  have hbl := bstep HBL.out hb2
  clear hb2 HBL HK a1 a2
  generalize knCount a.k = ke at *
  generalize knChk a.k = kt at *
  by_cases h0 : we = 0
  · subst h0
    go_wp2
    go_ret
    exact ⟨(by rw [← HS.out]; try rfl), hbl⟩
  · have hne : (we == 0) = false := by simpa using h0
    have hne2 : decide (we = 0) = false := by simpa using h0
    rw [hne2] at HS
    go_wp2
    go_ret
    exact ⟨(by rw [← HS.out]; try rfl), hbl⟩
set_option maxRecDepth 100000 in
set_option maxHeartbeats 2000000 in
theorem plain_c (v : Value) (l : Bxs) (w : World) (hs : BxsAt w v l) (hc : fChk l = 0) :
    Calls Try.prog 157 #[v] w fun e w' => ∃ v' l', e = .returned v' ∧ FOwn w' w.heap.size v' l' ∧ FGood l' (fun k n => inF l k n) ∧ Below w.heap.size w w' := by
  obtain ⟨a, c, rfl⟩ := hs.shape
  have hfo := (fChk_zero.1 hc).2
  have HT := Lib.hid (tabled_c _ l w hs hfo)
  have HBD := Lib.hid (fun k => (tabN_good l k hfo).1)
  have HBT := Lib.hid (fun k => (tabN_good l k hfo).2)
  clear hs hc hfo
  go_enter Try.func157, Try.ntmps157
  go_wp2_with fail
  (with_reducible refine (HT.out).mono ?_)
  rintro e w1 ⟨rfl, hb1⟩
  have HB := Lib.hid (boxes_c (tabN l) (fun k _ => HBD.out k) w1)
  have HBL := Lib.hid hb1
  clear HT hb1
  go_wp2_with fail
  (with_reducible refine (HB.out).mono ?_)
  rintro e w2 ⟨v', l', rfl, hown, ⟨dn, hst⟩, hb2⟩
  have HO := Lib.hid (BxsOwn.mono hown HBL.out.size)
  have HG := Lib.hid (FGood.of_st (p := fun k n => inF l k n) hst (fun k _ => HBD.out k) fun k n _ _ => HBT.out k n)
  have HBX := Lib.hid (bstep HBL.out hb2)
  obtain ⟨xa, xc, hv⟩ := hown.shape
  subst hv
  clear hown hst hb2 HB HBL
  go_wp2
  go_ret
  exact ⟨_, _, rfl, HO.out, HG.out, HBX.out⟩
set_option maxRecDepth 100000 in
/-- The closures of part.Few. -/
theorem few1_p (B : Nat) (a : Pt) (f u x : Value) (w : World) (hB : w.heap[B]? = some (Obj.cells #[f, u, x] 83 (0, 0))) (ha : PtOk a) (hf : BxsAt w f a.f) (hk : KnAt w u x a.k) :
    PredP PtOk 153 #[.pointer (some ⟨B, 0, none⟩)] (fun q => underS (sem a) (sem q)) w := by
  refine ⟨enters_of Try.func153 (by kernel_rfl) rfl, fun q g y z W hq hbl hg hk2 => ?_⟩
  show Calls Try.prog 153 #[.agg #[g, y, z], .pointer (some ⟨B, 0, none⟩)] W _
  have hB1 := below_keep hbl hB
  have hf1 := hf.below hbl
  have hk1 := hk.below hbl
  clear hbl hB hf hk
  obtain ⟨fa, fc, hfv⟩ := hf1.shape
  obtain ⟨ua, uc, huv⟩ := hk1.vec.shape
  obtain ⟨xa, xc, hxv⟩ := hk1.more.shape
  subst hfv huv hxv
  obtain ⟨ga, gc, rfl⟩ := hg.shape
  obtain ⟨ya, yc, rfl⟩ := hk2.vec.shape
  obtain ⟨za, zc, rfl⟩ := hk2.more.shape
  have hbel := bal (W := W) (.cells #[.slice ga q.f.length gc, .slice ya q.k.vec.length yc, .slice za q.k.more.length zc] 83)
  have hB2 := below_keep hbel hB1
  have HU := Lib.hid (under_c a q _ _ _ _ _ _ _ ha hq (hf1.below hbel) (hk1.below hbel) (hg.below hbel) (hk2.below hbel))
  have c0 := cell_of_block (j := 0) hB2 rfl
  have c1 := cell_of_block (j := 1) hB2 rfl
  have c2 := cell_of_block (j := 2) hB2 rfl
  have HBL := Lib.hid hbel
  clear hB1 hB2 hf1 hk1 hg hk2 hbel ha hq
  go_enter Try.func153, Try.ntmps153
  go_wp2_with fail
  (with_reducible refine (HU.out).mono ?_)
  rintro e w1 ⟨rfl, hb1⟩
  have hbl := bstep HBL.out hb1
  clear hb1 HU HBL c0 c1 c2
  go_wp2
  go_ret
  exact ⟨rfl, hbl⟩
set_option maxRecDepth 100000 in
theorem few2_p (B : Nat) (a : Pt) (f u x : Value) (w : World) (hB : w.heap[B]? = some (Obj.cells #[f, u, x] 83 (0, 0))) (ha : PtOk a) (hf : BxsAt w f a.f) (hk : KnAt w u x a.k) :
    PredP PtOk 156 #[.pointer (some ⟨B, 0, none⟩)] (fun q => underS (sem q) (sem a)) w := by
  refine ⟨enters_of Try.func156 (by kernel_rfl) rfl, fun q g y z W hq hbl hg hk2 => ?_⟩
  show Calls Try.prog 156 #[.agg #[g, y, z], .pointer (some ⟨B, 0, none⟩)] W _
  have hB1 := below_keep hbl hB
  have hf1 := hf.below hbl
  have hk1 := hk.below hbl
  clear hbl hB hf hk
  obtain ⟨fa, fc, hfv⟩ := hf1.shape
  obtain ⟨ua, uc, huv⟩ := hk1.vec.shape
  obtain ⟨xa, xc, hxv⟩ := hk1.more.shape
  subst hfv huv hxv
  obtain ⟨ga, gc, rfl⟩ := hg.shape
  obtain ⟨ya, yc, rfl⟩ := hk2.vec.shape
  obtain ⟨za, zc, rfl⟩ := hk2.more.shape
  have hbel := bal (W := W) (.cells #[.slice ga q.f.length gc, .slice ya q.k.vec.length yc, .slice za q.k.more.length zc] 83)
  have hB2 := below_keep hbel hB1
  have HU := Lib.hid (under_c q a _ _ _ _ _ _ _ hq ha (hg.below hbel) (hk2.below hbel) (hf1.below hbel) (hk1.below hbel))
  have c0 := cell_of_block (j := 0) hB2 rfl
  have c1 := cell_of_block (j := 1) hB2 rfl
  have c2 := cell_of_block (j := 2) hB2 rfl
  have HBL := Lib.hid hbel
  clear hB1 hB2 hf1 hk1 hg hk2 hbel ha hq
  go_enter Try.func156, Try.ntmps156
  go_wp2_with fail
  (with_reducible refine (HU.out).mono ?_)
  rintro e w1 ⟨rfl, hb1⟩
  have hbl := bstep HBL.out hb1
  clear hb1 HU HBL c0 c1 c2
  go_wp2
  go_ret
  exact ⟨rfl, hbl⟩
end Go.Proofs.Ythnkmjjldggecaa
namespace Go.Proofs.Ythnkmjjldggecaa
open Go.RowKit
def fewMStep (out : List Pt) (x : Pt) : List Pt := if noneS (sem x) || out.any (fun q => underS (sem x) (sem q)) then out else (out.filter fun q => !underS (sem q) (sem x)) ++ [x]
def fewM (l : List Pt) : List Pt := l.foldl fewMStep []
theorem fewM_snoc (l : List Pt) (x : Pt) : fewM (l ++ [x]) = fewMStep (fewM l) x := by simp [fewM]
theorem fewMStep_sem (out : List Pt) (x : Pt) : (fewMStep out x).map sem = fewStep (out.map sem) (sem x) := by
  unfold fewMStep fewStep
  rw [List.any_map]
  simp only [Function.comp_def]
  split
  · rfl
  · rw [List.map_append, List.filter_map]; rfl
theorem fewM_sem (l : List Pt) : (fewM l).map sem = fewS (l.map sem) := by
  refine snoc_ind (p := fun l => (fewM l).map sem = fewS (l.map sem)) rfl ?_ l
  intro l x ih
  rw [fewM_snoc, fewMStep_sem, ih, List.map_append, List.map_cons, List.map_nil, fewS_snoc]
theorem fewMStep_mem {out : List Pt} {x y : Pt} (h : y ∈ fewMStep out x) : y ∈ out ∨ y = x := by
  unfold fewMStep at h
  split at h
  · exact .inl h
  · rw [List.mem_append, List.mem_singleton] at h
    exact h.imp (fun h => (List.mem_filter.1 h).1) id
theorem fewM_sub (l : List Pt) : ∀ x ∈ fewM l, x ∈ l := by
  refine snoc_ind (p := fun l => ∀ x ∈ fewM l, x ∈ l) (fun x hx => by simp [fewM] at hx) ?_ l
  intro l y ih x hx
  rw [fewM_snoc] at hx
  rcases fewMStep_mem hx with h | rfl
  · exact List.mem_append_left _ (ih x h)
  · simp
theorem fewM_len (l : List Pt) : (fewM l).length ≤ l.length := by
  have h1 := congrArg List.length (fewM_sem l)
  have h2 := few_len (l.map sem)
  rw [List.length_map] at h1 h2
  omega
theorem fewM_ok {l : List Pt} (h : ∀ x ∈ l, PtOk x) : ∀ x ∈ fewM l, PtOk x := fun x hx => h x (fewM_sub l x hx)
/-- The filters of the first k parts were made plain. -/
structure PlainTo (k : Nat) (m l : List Pt) : Prop where
  len : l.length = m.length
  done : ∀ j (h : j < m.length) (h' : j < l.length), j < k → l[j].k = m[j].k ∧ FGood l[j].f (fun t n => inF m[j].f t n)
  rest : ∀ j (h : j < m.length) (h' : j < l.length), k ≤ j → l[j] = m[j]
theorem PlainTo.zero (m : List Pt) : PlainTo 0 m m := ⟨rfl, fun _ _ _ h => by omega, fun _ _ _ _ => rfl⟩
theorem PlainTo.step {k : Nat} {m l : List Pt} (h : PlainTo k m l) (hk : k < m.length) {f : Bxs} (hf : FGood f (fun t n => inF m[k].f t n)) : PlainTo (k + 1) m (l.set k ⟨f, (l[k]'(by rw [h.len]; exact hk)).k⟩) := by
  have hkl : k < l.length := by rw [h.len]; exact hk
  have hlen : (l.set k ⟨f, l[k].k⟩).length = m.length := by rw [List.length_set]; exact h.len
  refine ⟨hlen, fun j h1 h2 h3 => ?_, fun j h1 h2 h3 => ?_⟩
  · rw [List.getElem_set]
    split
    · rename_i e
      subst e
      exact ⟨by rw [h.rest k hk hkl (Nat.le_refl _)], hf⟩
    · exact h.done j h1 (by rw [h.len]; exact h1) (by omega)
  · rw [List.getElem_set, if_neg (by omega)]
    exact h.rest j h1 (by rw [h.len]; exact h1) (by omega)
theorem PlainTo.ok {m l : List Pt} (h : PlainTo m.length m l) (hok : ∀ x ∈ m, PtOk x) : ∀ p ∈ l, PtOk p ∧ p.f.length ≤ 16 := by
  intro p hp
  obtain ⟨j, hj, rfl⟩ := List.getElem_of_mem hp
  have hjm : j < m.length := by rw [← h.len]; exact hj
  obtain ⟨h1, h2⟩ := h.done j hjm hj hjm
  exact ⟨⟨h2.chk, by rw [h1]; exact (hok _ (List.getElem_mem hjm)).k⟩, h2.len⟩
theorem PlainTo.sem {m l : List Pt} (h : PlainTo m.length m l) : l.map sem = m.map sem := by
  apply List.ext_getElem
  · rw [List.length_map, List.length_map, h.len]
  · intro j h1 h2
    rw [List.length_map] at h1 h2
    obtain ⟨h3, h4⟩ := h.done j h2 h1 h2
    rw [List.getElem_map, List.getElem_map]
    unfold Go.Proofs.Ythnkmjjldggecaa.sem
    rw [h3, (ptsOf_rng l[j].f).ext (ptsOf_rng m[j].f) fun t n ht hn => by rw [ptsOf_in ht hn, ptsOf_in ht hn]; exact h4.pts t n ht hn]
set_option maxRecDepth 100000 in
set_option maxHeartbeats 8000000 in
theorem few_c (v : Value) (l : List Pt) (w : World) (hv : RowAt partE w v l) (hok : ∀ x ∈ l, PtOk x) (hl : l.length ≤ 1000) :
    Calls Try.prog 103 #[v] w fun e w' => ∃ v', e = .returned v' ∧ PtsOwn w' w.heap.size v' (fewS (l.map sem)) ∧ Below w.heap.size w w' := by
  obtain ⟨a, cap, rfl, hcap, hlen, -, hvl⟩ := hv.open_
  have HVL := Lib.hid hvl
  have HOK := Lib.hid hok
  clear hv hvl hok
  go_enter Try.func103, Try.ntmps103
  go_wp2
  go_loopw [3, 9] (fun ov i wr => ∃ k : Nat, k ≤ l.length ∧ i = .int .i64 k ∧ RowOwn partE w wr w.heap.size 83 ov (fewM (l.take k)) ∧ Below w.heap.size w wr) (fun _ i _ => l.length - (intOf i).toNat)
  case atStart => exact ⟨0, Nat.zero_le _, rfl, RowOwn.nil _ _ _ _, Below.refl _ _⟩
  case round =>
    obtain ⟨k, hk, rfl, hown, hbl⟩ := hrel
    have HOW := Lib.hid hown
    have HBL := Lib.hid hbl
    clear hown hbl
    by_cases hlt : k < l.length
    · rcases HVL.out with hnil | ⟨b, off, rfl, hb, hc⟩
      · rw [hnil] at hlt; simp at hlt
      obtain ⟨c, hE, hcc⟩ := hc k hlt
      obtain ⟨FF, UU, XX, rfl, hfw, hkw⟩ := hE
      have hcl := fun (j : Nat) (y : Value) (hy : [FF, UU, XX][j]? = some y) => row3 (w := wr) (b := b) (off := off) (i := k) (fun j y hy => (HBL.out.cell (p := ⟨b, off + (k * partE.size + j), none⟩) hb).trans (hcc j y hy)) hy
      have d0 := hcl 0 _ rfl
      have d1 := hcl 1 _ rfl
      have d2 := hcl 2 _ rfl
      rw [Nat.add_zero] at d0
      obtain ⟨fa, fc, rfl⟩ := hfw.shape
      obtain ⟨ua, uc, rfl⟩ := hkw.vec.shape
      obtain ⟨xa, xc, rfl⟩ := hkw.more.shape
      have HT := Lib.hid (show fewM (l.take (k + 1)) = fewMStep (fewM (l.take k)) l[k] by rw [List.take_succ_eq_append_getElem hlt, fewM_snoc])
      have hpk := HOK.out _ (List.getElem_mem hlt)
      have HPK := Lib.hid hpk
      have HFL := Lib.hid (show (fewM (l.take k)).length ≤ k by have := fewM_len (l.take k); rw [List.length_take] at this; omega)
      have HFO := Lib.hid (fewM_ok (l := l.take k) fun x hx => HOK.out x (List.mem_of_mem_take hx))
      obtain ⟨BK, hBK⟩ : ∃ BK, BK = wr.heap.size := ⟨_, rfl⟩
      obtain ⟨w1, hw1⟩ : ∃ w1, w1 = wr.alloc (.cells #[.slice fa l[k].f.length fc, .slice ua l[k].k.vec.length uc, .slice xa l[k].k.more.length xc] 83) := ⟨_, rfl⟩
      have hb1 : Below wr.heap.size wr w1 := by rw [hw1]; exact bal _
      have HB1 := Lib.hid (show w1.heap[BK]? = some (Obj.cells #[.slice fa l[k].f.length fc, .slice ua l[k].k.vec.length uc, .slice xa l[k].k.more.length xc] 83 (0, 0)) by rw [hw1]; exact alloc_new _ _ _ _ hBK)
      have HFW := Lib.hid hfw
      have HKW := Lib.hid hkw
      have hlow : ∀ g, (∃ x, RowOwn partE w wr w.heap.size 83 x (fewM (l.take k)) ∧ x.ownBlock = some g) → w.heap.size ≤ g ∧ g < BK := fun g ⟨x, hx, hg⟩ => by rw [hBK]; exact hx.lt g hg
      have HLOW := Lib.hid (fun g (hg : _ = some g) => hlow g ⟨_, HOW.out, hg⟩)
      replace HOW := Lib.hid (HOW.out.below hb1)
      replace HBL := Lib.hid (bstep HBL.out hb1)
      obtain ⟨oa, oc, hoo⟩ := HOW.out.shape
      subst hoo
      clear hc hcc hcl hfw hkw hb1 hpk hlow
      generalize l[k] = pp at *
      generalize fewM (l.take k) = lk at *
      obtain ⟨ff, kk⟩ := pp
      simp only at *
      have c0 := cell_of_block (j := 0) HB1.out rfl
      have c1 := cell_of_block (j := 1) HB1.out rfl
      have c2 := cell_of_block (j := 2) HB1.out rfl
      have hBl := hlt_of HB1.out
      have HNC := Lib.hid (none_c ⟨ff, kk⟩ _ _ _ w1 HPK.out (HFW.out.below HBL.out) (HKW.out.below HBL.out))
      go_wp2_with fail
      rw [← hBK, ← hw1]
      clear hBK hw1 d0 d1 d2
      go_wp2_with fail
      (with_reducible refine (HNC.out).mono ?_)
      rintro e w2 ⟨rfl, hb2⟩
      replace HB1 := Lib.hid (below_keep hb2 HB1.out)
      replace HOW := Lib.hid (HOW.out.below hb2)
      replace HBL := Lib.hid (bstep HBL.out hb2)
      clear hb2 HNC c0 c1 c2 hBl
      cases hno : noneS (sem ⟨ff, kk⟩)
      rotate_left
      · have HN := Lib.hid (show fewM (l.take (k + 1)) = lk by rw [HT.out]; unfold fewMStep; rw [hno]; rfl)
        clear hno
        go_wp2
        go_roundw
        case rel => exact ⟨k + 1, by omega, by go_num, by rw [HN.out]; exact HOW.out, HBL.out⟩
        case measure => simp [intOf] <;> omega
      have HCN := Lib.hid (containsP_c PtOk _ lk 153 #[.pointer (some ⟨BK, 0, none⟩)] (fun q => underS (sem ⟨ff, kk⟩) (sem q)) w2 (HOW.out.at_ (Sub.of_below HBL.out) (by have := HFL.out; omega)) HFO.out
        (few1_p BK ⟨ff, kk⟩ _ _ _ w2 HB1.out HPK.out (HFW.out.below HBL.out) (HKW.out.below HBL.out)))
      have HST := Lib.hid (show fewMStep lk ⟨ff, kk⟩ = if lk.any (fun q => underS (sem ⟨ff, kk⟩) (sem q)) = true then lk else (lk.filter fun q => !underS (sem q) (sem ⟨ff, kk⟩)) ++ [⟨ff, kk⟩] by unfold fewMStep; rw [hno, Bool.false_or])
      clear hno
      generalize lk.any (fun q => underS (sem ⟨ff, kk⟩) (sem q)) = an at *
      go_wp2_with fail
      (with_reducible refine (HCN.out).mono ?_)
      rintro e w3 ⟨rfl, hb3⟩
      replace HB1 := Lib.hid (below_keep hb3 HB1.out)
      replace HOW := Lib.hid (HOW.out.below hb3)
      replace HBL := Lib.hid (bstep HBL.out hb3)
      clear hb3 HCN
      cases an
      rotate_left
      · have HN := Lib.hid (show fewM (l.take (k + 1)) = lk by rw [HT.out, HST.out]; rfl)
        go_wp2
        go_roundw
        case rel => exact ⟨k + 1, by omega, by go_num, by rw [HN.out]; exact HOW.out, HBL.out⟩
        case measure => simp [intOf] <;> omega
      have HN := Lib.hid (show fewM (l.take (k + 1)) = (lk.filter fun q => !underS (sem q) (sem ⟨ff, kk⟩)) ++ [⟨ff, kk⟩] by rw [HT.out, HST.out]; rfl)
      have HDL := Lib.hid (pdel_c PtOk w w3 _ lk 156 #[.pointer (some ⟨BK, 0, none⟩)] (fun q => underS (sem q) (sem ⟨ff, kk⟩)) HBL.out HOW.out (by have := HFL.out; omega) HFO.out
        (fun W => Below w.heap.size w W ∧ W.heap[BK]? = some (Obj.cells #[.slice fa ff.length fc, .slice ua kk.vec.length uc, .slice xa kk.more.length xc] 83 (0, 0)))
        ⟨enters_of Try.func156 (by kernel_rfl) rfl, fun a f u x W hD hI hf hk => (few2_p BK ⟨ff, kk⟩ _ _ _ W hI.2 HPK.out (HFW.out.below hI.1) (HKW.out.below hI.1)).2 a f u x W hD (Below.refl _ _) hf hk⟩
        ⟨HBL.out, HB1.out⟩ (fun W W' hI hb => ⟨bstep hI.1 hb, below_keep hb hI.2⟩) (fun W W' g hg hr hI => ⟨hr.below hI.1 (HLOW.out g hg).1, by rw [hr.other BK (by have := (HLOW.out g hg).2; omega)]; exact hI.2⟩))
      have hfl : (lk.filter fun q => !underS (sem q) (sem ⟨ff, kk⟩)).length ≤ k := Nat.le_trans (List.length_filter_le _ _) HFL.out
      clear HST HT HFO HFL HOW
      generalize (lk.filter fun q => !underS (sem q) (sem ⟨ff, kk⟩)) = lf at *
      have HB0 := Lib.hid (hlt_of HB1.out)
      go_wp2_with fail
      (with_reducible refine (HDL.out).mono ?_)
      rintro e w4 ⟨s4, rfl, h4, hb4, hi4⟩
      obtain ⟨sa, sc, rfl⟩ := h4.shape
      have hB4 := hi4.2
      have e0 := cell_of_block (j := 0) hB4 rfl
      have e1 := cell_of_block (j := 1) hB4 rfl
      have e2 := cell_of_block (j := 2) hB4 rfl
      have hBl := hlt_of hB4
      obtain ⟨css, h41, h42⟩ := h4
      have hbx := bal (W := w4) (.cells #[.slice fa ff.length fc, .slice ua kk.vec.length uc, .slice xa kk.more.length xc] 83)
      have H41 := Lib.hid h41
      have H42 := Lib.hid (show (w4.alloc (.cells #[.slice fa ff.length fc, .slice ua kk.vec.length uc, .slice xa kk.more.length xc] 83)).ownsRow w.heap.size 83 3 (.slice sa lf.length sc) lf.length css.flatten from h42.alloc _)
      have HC := Lib.hid (CellsAt.mk (w := w4.alloc (.cells #[.slice fa ff.length fc, .slice ua kk.vec.length uc, .slice xa kk.more.length xc] 83)) (b := w4.heap.size) (off := 0) (n := 1) (cap := 1) (xs := [.slice fa ff.length fc, .slice ua kk.vec.length uc, .slice xa kk.more.length xc]) (Nat.le_refl _) (by decide) (by simp) (fun j x hj => by
        rw [Nat.zero_add, World.cell?_alloc_at _ _ _ _ (by simp)]; simpa using hj))
      have HB4 := Lib.hid (bstep hb4 hbx)
      have hsz := HB4.out.size
      clear h41 h42 hi4 hb4 hB4 hbx HDL HB1 HBL HLOW
      go_wp2_with (at_builtin; refine wpList_append_cells2 rfl (.tmp 23) (.tmp 25) 62 rfl w.heap.size 83 _ 3 72 Try.underlying62 PartTy.info rfl (by decide) _ lf.length _ rfl H42.out _ 1 _ rfl HC.out rfl (by intro z hz; simp at hz; rcases hz with rfl | rfl | rfl <;> rfl) hsz (by unfold maxLen; omega) (by omega) ?_)
      intro v' w5 ho hgr
      obtain ⟨qa, qc, hq⟩ := owns_slice ho
      subst hq
      have HR := Lib.hid (show RowOwn partE w w5 w.heap.size 83 (.slice qa (lf.length + 1) qc) (lf ++ [⟨ff, kk⟩]) from ⟨css ++ [[.slice fa ff.length fc, .slice ua kk.vec.length uc, .slice xa kk.more.length xc]], H41.out.append (Els.single ⟨_, _, _, rfl, HFW.out, HKW.out⟩), by rw [List.length_append, List.flatten_append]; exact ho⟩)
      have HBE := Lib.hid (HB4.out.grown hgr hsz fun k hk => (H42.out.lt k hk).1)
      clear ho hgr e0 e1 e2
      go_wp2
      go_roundw
      case rel => exact ⟨k + 1, by omega, by go_num, by rw [HN.out]; exact HR.out, HBE.out⟩
      case measure => simp [intOf] <;> omega
    · obtain rfl : k = l.length := by omega
      rw [List.take_length] at HOW
      have hfl := fewM_len l
      have HFO := Lib.hid (fewM_ok HOK.out)
      have HSEM := Lib.hid (fewM_sem l)
      obtain ⟨oa, oc, hoo⟩ := HOW.out.shape
      subst hoo
      have HCP := Lib.hid (pcopied_c _ (fewM l) wr (HOW.out.at_ (Sub.of_below HBL.out) (by omega)) HFO.out (by omega))
      clear HVL HOK HOW
      generalize fewM l = m at *
      go_wp2_with fail
      (with_reducible refine (HCP.out).mono ?_)
      rintro e w2 ⟨ov, rfl, ho, hb2⟩
      have HO := Lib.hid (ho.mono HBL.out.size)
      obtain ⟨pa, pc, rfl⟩ := ho.shape
      have HB2 := Lib.hid (bstep HBL.out hb2)
      clear ho hb2 HCP HBL
      obtain ⟨w3, hw3⟩ : ∃ w3, w3 = w2 := ⟨_, rfl⟩
      rw [← hw3] at HO HB2 ⊢
      clear hw3 w2
      go_wp2
      go_loopw [32] (fun i wr => ∃ q : Nat, q ≤ m.length ∧ i = .int .i64 q ∧ (∃ l1, POwn wr w.heap.size (.slice pa m.length pc) l1 ∧ PlainTo q m l1) ∧ Below w.heap.size w wr) (fun i _ => m.length - (intOf i).toNat)
      case atStart => exact ⟨0, Nat.zero_le _, rfl, ⟨m, HO.out, PlainTo.zero m⟩, HB2.out⟩
      case round =>
        obtain ⟨q, hq, rfl, ⟨l1, ho1, hp1⟩, hbl⟩ := hrel
        have HO1 := Lib.hid ho1
        have HP1 := Lib.hid hp1
        have HBL := Lib.hid hbl
        clear ho1 hp1 hbl HO HB2
        by_cases hql : q < m.length
        · have hq1 : q < l1.length := by rw [HP1.out.len]; exact hql
          have hrest := HP1.out.rest q hql hq1 (Nat.le_refl _)
          obtain ⟨g, f1, hpg, hcell, hfo⟩ := HO1.out.cellF q hq1
          subst hpg
          have hfz : fChk l1[q].f = 0 := by rw [hrest]; exact (HFO.out _ (List.getElem_mem hql)).f
          have HPC := Lib.hid (plain_c f1 l1[q].f wr (hfo.at_ok hfz) hfz)
          obtain ⟨fa, fc, hf1⟩ := hfo.shape
          subst hf1
          have HPT := Lib.hid (fun (f : Bxs) (h : FGood f (fun t n => inF l1[q].f t n)) => HP1.out.step hql (f := f) (by rw [hrest] at h; exact h))
          have hqm : decide ((q : Int) < (m.length : Int)) = true := by simp; omega
          clear hfo hrest hfz
          go_wp2_with fail
          (with_reducible refine (HPC.out).mono ?_)
          rintro e w5 ⟨f2, fl, rfl, hf2, hg2, hb5⟩
          have HF2 := Lib.hid (hf2.mono HBL.out.size)
          obtain ⟨fa2, fc2, hf2v⟩ := hf2.shape
          subst hf2v
          obtain ⟨hset, cs, hgb, hbase⟩ := (HO1.out.below hb5).setF q hq1 (fs := fl) HF2.out
          have HSET := Lib.hid hset
          have HPL := Lib.hid (HPT.out fl hg2)
          have HBF := Lib.hid ((bstep HBL.out hb5).setCell (p := ⟨g, q * 3, none⟩) hbase (.slice fa2 fl.length fc2))
          have c5 := ckeep hb5 hcell
          have ff5 := free_of_block (j := q * 3) hgb
          have hgl := hlt_of hgb
          clear hcell hb5 hf2 hg2 HPC hset hgb HPT
          go_wp2
          go_roundw
          case rel => exact ⟨q + 1, by omega, by go_num, ⟨_, HSET.out, HPL.out⟩, HBF.out⟩
          case measure => simp [intOf] <;> omega
        · obtain rfl : q = m.length := by omega
          have HRES := Lib.hid (show PtsOwn wr w.heap.size (.slice pa m.length pc) (fewS (l.map sem)) from ⟨l1, HO1.out, HP1.out.ok HFO.out, by rw [HP1.out.sem, HSEM.out]⟩)
          clear HO1 HP1 HFO HSEM
          go_wp2
          go_ret
          exact ⟨_, rfl, HRES.out, HBL.out⟩
end Go.Proofs.Ythnkmjjldggecaa
namespace Go.Proofs.Ythnkmjjldggecaa
open Go.RowKit

set_option maxRecDepth 100000 in
theorem PlTy.info : (Try.prog.info? 83).map (fun i => (i.zero, i.size, i.bytes)) = some (some (.agg #[.slice none 0 0, .slice none 0 0, .slice none 0 0]), 3, 72) := by kernel_rfl

set_option maxRecDepth 100000 in
set_option maxHeartbeats 800000 in
theorem PlGrow_c (n : Nat) (hn : n * 72 ≤ 140737488355328) (w : World) :
    Calls Try.prog 118 #[.slice none 0 0, .int .i64 n] w fun e w' => ∃ v, e = .returned v ∧ w'.ownsRow w.heap.size 83 3 v 0 [] ∧ Below w.heap.size w w' := by
  obtain ⟨i0, hi, hz0, hz1, hz2⟩ := info_parts PlTy.info
  by_cases h0 : n = 0
  · subst h0
    go_enter Try.func118, Try.ntmps118
    go_wp2
    go_ret
    exact ⟨_, rfl, World.ownsRow_nil _ _ _ _, Below.refl _ _⟩
  · have hpos : 0 < n := by omega
    have hr := Lib.hid (Lib.run_append_nil_zeros (P := Try.prog) w 62 3 62 83 i0 (.agg #[.slice none 0 0, .slice none 0 0, .slice none 0 0]) .i64 .i64 Try.underlying62 Try.underlying3 hi hz0 n hpos (by omega) (by omega) (by rw [hz2]; omega))
    have hge := grownCap_ge w n 0 83
    have hcm := grownCap_le_maxLen w n 0 83 (by unfold maxLen; omega)
    go_enter Try.func118, Try.ntmps118
    go_wp2_with (at_builtin; refine Lib.wpList_append_run _ rfl (.tmp 20) (.tmp 21) _ _ rfl _ _ rfl rfl _ _ hr.out ?_)
    go_wp2
    go_ret
    exact ⟨_, rfl, World.ownsRow_made w.drew _ _ (Nat.le_refl _) hcm (by simp only [Array.size_append, size_zeroCells]; rw [← Nat.add_mul]; show _ * 3 = _; congr 1; omega), (Below.refl _ _).drew.alloc (Nat.le_refl _) _⟩

set_option maxRecDepth 100000 in
set_option maxHeartbeats 1000000 in
theorem PlConcat_c (v : Value) (rs : Rows3) (w : World) (hs : RowsAt w v rs) (hl : ∀ r ∈ rs, r.2.2.length = r.2.1 * 3) (h1 : ∀ r ∈ rs, ∀ u ∈ r.2.2, u.oneCell' = true) (hsum : tot rs * 72 ≤ 140737488355328) :
    Calls Try.prog 56 #[v] w fun e w' => ∃ v', e = .returned v' ∧ w'.ownsRow w.heap.size 83 3 v' (tot rs) (flat rs) ∧ Below w.heap.size w w' := by
  obtain ⟨hc, hr⟩ := hs
  obtain ⟨a, cap, rfl, hcap, hm, -, hcs⟩ := hc
  go_enter Try.func56, Try.ntmps56
  go_wp2
  go_loop [3, 11] (fun u i => ∃ k : Nat, k ≤ rs.length ∧ i = .int .i64 k ∧ u = .int .i64 (tot (rs.take k))) (fun _ i => rs.length - (intOf i).toNat)
  case atStart => exact ⟨0, Nat.zero_le _, rfl, rfl⟩
  case round =>
    obtain ⟨k, hk, rfl, rfl⟩ := hrel
    by_cases hlt : k < rs.length
    · have ht := tot_take rs k hlt
      have hle := tot_le rs (k + 1)
      rcases hcs with hnil | ⟨b, off, rfl, hb, hcc⟩
      · simp at hnil; subst hnil; simp at hlt
      have d1 := hcc k rs[k].1 (by simp [hlt])
      obtain ⟨xa, xc, hv⟩ := (hr _ (List.getElem_mem hlt)).shape
      rw [hv] at d1
      clear hcc
      have HT := Lib.hid ht
      have hb0 : (tot (rs.take k) : Int) + (rs[k].2.1 : Int) ≤ 140737488355328 := by have := ht; omega
      clear ht hv hr h1 hl
      generalize rs[k].2.1 = n at *
      generalize tot (rs.take k) = s at *
      go_wp2
      go_round
      case rel => exact ⟨k + 1, by omega, by go_num, by rw [HT.out]; go_num⟩
      case measure => simp [intOf]; omega
    · obtain rfl : k = rs.length := by omega
      rw [List.take_length]
      go_wp2_with fail
      refine (PlGrow_c (tot rs) hsum _).mono ?_
      rintro e w1 ⟨v1, rfl, hown, hb1⟩
      have HR := Lib.hid (show ∀ r ∈ rs, ∀ W, Below w.heap.size w W → CellsAt W r.1 r.2.1 r.2.2 from fun r h W hW => (hr r h).below hW)
      clear hr
      go_wp2
      go_loopw [6, 27] (fun u i wr => ∃ k : Nat, k ≤ rs.length ∧ i = .int .i64 k ∧ wr.ownsRow w.heap.size 83 3 u (tot (rs.take k)) (flat (rs.take k)) ∧ Below w.heap.size w wr) (fun _ i _ => rs.length - (intOf i).toNat)
      case atStart => exact ⟨0, Nat.zero_le _, rfl, hown, hb1⟩
      case round =>
        obtain ⟨k, hk, rfl, hown', hbl⟩ := hrel
        clear hown hb1
        by_cases hlt : k < rs.length
        · have ht := tot_take rs k hlt
          have hle := tot_le rs (k + 1)
          rcases hcs with hnil | ⟨b, off, rfl, hb, hcc⟩
          · simp at hnil; subst hnil; simp at hlt
          have d1 := (hbl.cell (p := ⟨b, off + k, none⟩) hb).trans (hcc k rs[k].1 (by simp [hlt]))
          have HC := Lib.hid (HR.out _ (List.getElem_mem hlt) _ hbl)
          have HL := Lib.hid (hl _ (List.getElem_mem hlt))
          have H1 := Lib.hid (h1 _ (List.getElem_mem hlt))
          have HF := Lib.hid (flat_take rs k hlt)
          have HT := Lib.hid ht
          have HO := Lib.hid hown'
          have HS := Lib.hid (show (tot (rs.take k) + rs[k].2.1) * 72 ≤ 140737488355328 by rw [← ht]; exact Nat.le_trans (Nat.mul_le_mul_right _ hle) hsum)
          clear hcc ht hl h1 hown'
          generalize rs[k].1 = v0 at *
          generalize rs[k].2.1 = n at *
          generalize rs[k].2.2 = ys at *
          go_wp2_with (at_builtin; refine wpList_append_cells (w0 := w) rfl (.tmp 31) (.tmp 32) 62 rfl w.heap.size 83 (.agg #[.slice none 0 0, .slice none 0 0, .slice none 0 0]) 3 72 Try.underlying62 PlTy.info rfl (by decide) _ _ _ rfl HO.out v0 n ys rfl HC.out HL.out H1.out hbl hbl.size (by have := HS.out; unfold maxLen; omega) HS.out ?_)
          intro v' w2 hown2 hbl2
          go_wp2
          go_roundw
          case rel => exact ⟨k + 1, by omega, by go_num, by rw [HT.out, HF.out]; exact hown2, hbl2⟩
          case measure => simp [intOf]; omega
        · obtain rfl : k = rs.length := by omega
          rw [List.take_length] at hown'
          go_wp2
          go_ret
          exact ⟨_, rfl, hown', hbl⟩
end Go.Proofs.Ythnkmjjldggecaa
namespace Go.Proofs.Ythnkmjjldggecaa
open Go.RowKit
theorem CatP.lit2 {w : World} {a b : Value} {l1 l2 : List Pt} (h1 : RowAt partE w a l1) (h2 : RowAt partE w b l2) (t : TypeId) : ∃ rs : Rows3, RowsAt (w.alloc (.cells #[a, b] t)) (.slice (some ⟨w.heap.size, 0, none⟩) 2 2) rs ∧ (∀ r ∈ rs, r.2.2.length = r.2.1 * 3) ∧ (∀ r ∈ rs, ∀ u ∈ r.2.2, u.oneCell' = true) ∧ ∃ css, Els partE w (l1 ++ l2) css ∧ flat rs = css.flatten ∧ tot rs = (l1 ++ l2).length := by
  obtain ⟨c1, k1, m1⟩ := h1
  obtain ⟨c2, k2, m2⟩ := h2
  have hb := bal (W := w) (.cells #[a, b] t)
  refine ⟨[(a, l1.length, c1.flatten), (b, l2.length, c2.flatten)], ⟨?_, ?_⟩, ?_, ?_, c1 ++ c2, k1.append k2, ?_, ?_⟩
  · exact CellsAt.mk (Nat.le_refl _) (by decide) (by simp) fun j x hj => by rw [Nat.zero_add, World.cell?_alloc_at _ _ _ _ rfl]; simpa using hj
  · intro r hr
    simp only [List.mem_cons, List.not_mem_nil, or_false] at hr
    rcases hr with rfl | rfl
    · exact m1.below hb
    · exact m2.below hb
  · intro r hr
    simp only [List.mem_cons, List.not_mem_nil, or_false] at hr
    rcases hr with rfl | rfl
    · exact k1.flat
    · exact k2.flat
  · intro r hr
    simp only [List.mem_cons, List.not_mem_nil, or_false] at hr
    rcases hr with rfl | rfl
    · exact k1.one
    · exact k2.one
  · rw [List.flatten_append]; simp [flat]
  · rw [List.length_append]; simp [tot]
set_option maxRecDepth 100000 in
theorem pconcat_c {a b : Value} {l1 l2 : List Pt} (w : World) (h1 : RowAt partE w a l1) (h2 : RowAt partE w b l2) (t : TypeId) (hl : (l1 ++ l2).length ≤ 1000) :
    Calls Try.prog 56 #[.slice (some ⟨w.heap.size, 0, none⟩) 2 2] (w.alloc (.cells #[a, b] t)) fun e w' => ∃ v', e = .returned v' ∧ RowAt partE w' v' (l1 ++ l2) ∧ Below (w.alloc (.cells #[a, b] t)).heap.size (w.alloc (.cells #[a, b] t)) w' := by
  obtain ⟨rs, k1, k2, k3, css, k4, k5, k6⟩ := CatP.lit2 h1 h2 t
  refine (PlConcat_c _ rs _ k1 k2 k3 (by rw [k6]; omega)).mono ?_
  rintro e w' ⟨v', rfl, h7, hb⟩
  rw [k5, k6] at h7
  exact ⟨v', rfl, ⟨css, k4.sub (Sub.of_below (ba1 hb)), CellsAt.of_owns h7 (by omega)⟩, hb⟩
def pjE (a b : List Pt) : Int := if ptsChk a ≠ 0 then ptsChk a else if ptsChk b ≠ 0 then ptsChk b else if 30 < (fewS ((a ++ b).map sem)).length then 2 else 0
/-- Parts that were answered: they are the call's own; or an error. -/
def PRes (w : World) (base : Nat) (v : Value) (E : Int) (S : List SP) : Prop := (E = 0 → PtsOwn w base v S) ∧ (E ≠ 0 → v = .slice none 0 0)
set_option maxRecDepth 100000 in
set_option maxHeartbeats 4000000 in
theorem pjoin_c (va vb : Value) (a b : List Pt) (w : World) (ha : RowAt partE w va a) (hb : RowAt partE w vb b) :
    Calls Try.prog 42 #[va, vb] w fun e w' => ∃ v, e = .returned (.tuple #[v, .int .i64 (pjE a b)]) ∧ PRes w' w.heap.size v (pjE a b) (fewS ((a ++ b).map sem)) ∧ Below w.heap.size w w' := by
  obtain ⟨xa, ca, rfl⟩ := ha.shape
  obtain ⟨xb, cb, rfl⟩ := hb.shape
  have HA := Lib.hid ha
  have HB := Lib.hid hb
  have HC := Lib.hid (ptsChk_c _ a w ha)
  have HE1 := Lib.hid (show ptsChk a ≠ 0 → pjE a b = ptsChk a from fun h => by unfold pjE; rw [if_pos h])
  have HE2 := Lib.hid (show ptsChk a = 0 → ptsChk b ≠ 0 → pjE a b = ptsChk b from fun h k => by unfold pjE; rw [if_neg (by omega), if_pos k])
  have HE3 := Lib.hid (show ptsChk a = 0 → ptsChk b = 0 → pjE a b = if 30 < (fewS ((a ++ b).map sem)).length then 2 else 0 from fun h k => by unfold pjE; rw [if_neg (by omega), if_neg (by omega)])
  have HZA := Lib.hid (ptsChk_zero (l := a))
  have HZB := Lib.hid (ptsChk_zero (l := b))
  clear ha hb
  go_enter Try.func42, Try.ntmps42
  go_wp2_with fail
  (with_reducible refine (HC.out).mono ?_)
  rintro e w1 ⟨rfl, hb1⟩
  replace HA := Lib.hid (HA.out.below hb1)
  replace HB := Lib.hid (HB.out.below hb1)
  have HBL := Lib.hid hb1
  clear hb1 HC
  by_cases h0 : ptsChk a = 0
  rotate_left
  · have H := Lib.hid (HE1.out h0)
    have H0 := Lib.hid h0
    have hne : decide (ptsChk a = 0) = false := by simpa using h0
    have hnb : (ptsChk a != 0) = true := bne_iff_ne.2 h0
    generalize ptsChk a = sc at *
    clear h0
    go_wp2
    go_ret2
    exact ⟨_, ret_ve H.out.symm, ⟨fun h => absurd (H.out.symm.trans h) H0.out, fun _ => rfl⟩, HBL.out⟩
  have HZ := Lib.hid (HZA.out.1 h0)
  replace HE2 := Lib.hid (HE2.out h0)
  replace HE3 := Lib.hid (HE3.out h0)
  have HC := Lib.hid (ptsChk_c _ b w1 HB.out)
  rw [h0]
  clear h0 HE1 HZA
  go_wp2_with fail
  (with_reducible refine (HC.out).mono ?_)
  rintro e w2 ⟨rfl, hb1⟩
  replace HA := Lib.hid (HA.out.below hb1)
  replace HB := Lib.hid (HB.out.below hb1)
  replace HBL := Lib.hid (bstep HBL.out hb1)
  clear hb1 HC
  by_cases h0 : ptsChk b = 0
  rotate_left
  · have H := Lib.hid (HE2.out h0)
    have H0 := Lib.hid h0
    have hne : decide (ptsChk b = 0) = false := by simpa using h0
    have hnb : (ptsChk b != 0) = true := bne_iff_ne.2 h0
    generalize ptsChk b = sc at *
    clear h0
    go_wp2
    go_ret2
    exact ⟨_, ret_ve H.out.symm, ⟨fun h => absurd (H.out.symm.trans h) H0.out, fun _ => rfl⟩, HBL.out⟩
  have HY := Lib.hid (HZB.out.1 h0)
  have HE := Lib.hid (HE3.out h0)
  have hla := HZ.out.1
  have hlb := HY.out.1
  have HOK := Lib.hid (show ∀ x ∈ a ++ b, PtOk x from fun x hx => (List.mem_append.1 hx).elim (HZ.out.2 x) (HY.out.2 x))
  have HLN := Lib.hid (show (a ++ b).length ≤ 60 by rw [List.length_append]; omega)
  have HCC := Lib.hid (pconcat_c w2 HA.out HB.out 62 (by have := HLN.out; omega))
  rw [h0]
  clear h0 HE2 HE3 HZB HZ HY
  have hbx := bal (W := w2) (.cells #[.slice xa a.length ca, .slice xb b.length cb] 62)
  have HBX := Lib.hid hbx
  clear hbx
  go_wp2_with fail
  (with_reducible refine (HCC.out).mono ?_)
  rintro e w3 ⟨v3, rfl, h3, hb3⟩
  generalize hab : a ++ b = ab at *
  have HAB := Lib.hid hab
  clear hab
  have HF := Lib.hid (few_c _ ab w3 h3 HOK.out (by have := HLN.out; omega))
  replace HBL := Lib.hid (bstep (bstep HBL.out HBX.out) hb3)
  obtain ⟨x3, c3, rfl⟩ := h3.shape
  clear h3 hb3 HCC HBX
  generalize hS : fewS (ab.map sem) = S at *
  have HSS := Lib.hid hS
  clear hS
  go_wp2_with fail
  (with_reducible refine (HF.out).mono ?_)
  rintro e w4 ⟨v4, rfl, h4, hb4⟩
  have H4 := Lib.hid (h4.mono HBL.out.size)
  replace HBL := Lib.hid (bstep HBL.out hb4)
  obtain ⟨x4, c4, hv4⟩ := h4.shape
  subst hv4
  clear h4 hb4 HF
  by_cases h30 : 30 < S.length
  · have H := Lib.hid (show pjE a b = 2 by rw [HE.out, if_pos h30])
    have hb30 : decide ((30 : Int) < (S.length : Int)) = true := by rw [decide_eq_true_eq]; omega
    clear HE h30
    go_wp2
    go_ret2
    exact ⟨_, ret_ve H.out.symm, ⟨fun h => absurd (H.out.symm.trans h) (by decide), fun _ => rfl⟩, HBL.out⟩
  · have H := Lib.hid (show pjE a b = 0 by rw [HE.out, if_neg h30])
    have hb30 : decide ((30 : Int) < (S.length : Int)) = false := by rw [decide_eq_false_iff_not]; omega
    clear HE h30
    go_wp2
    go_ret2
    exact ⟨.slice x4 S.length c4, ret_ve H.out.symm, ⟨fun _ => by rw [HAB.out, HSS.out]; exact H4.out, fun h => absurd H.out h⟩, HBL.out⟩
def pnE (l : List Pt) (f : Bxs) : Int := if ptsChk l ≠ 0 then ptsChk l else fChk f
/-- The filters of the first k parts were met. -/
structure MeetTo (g : Bxs) (k : Nat) (m l : List Pt) : Prop where
  len : l.length = m.length
  done : ∀ j (h : j < m.length) (h' : j < l.length), j < k → l[j].k = m[j].k ∧ FGood l[j].f (fun t n => inF m[j].f t n && inF g t n)
  rest : ∀ j (h : j < m.length) (h' : j < l.length), k ≤ j → l[j] = m[j]
theorem MeetTo.zero (g : Bxs) (m : List Pt) : MeetTo g 0 m m := ⟨rfl, fun _ _ _ h => by omega, fun _ _ _ _ => rfl⟩
theorem MeetTo.step {g : Bxs} {k : Nat} {m l : List Pt} (h : MeetTo g k m l) (hk : k < m.length) {f : Bxs} (hf : FGood f (fun t n => inF m[k].f t n && inF g t n)) : MeetTo g (k + 1) m (l.set k ⟨f, (l[k]'(by rw [h.len]; exact hk)).k⟩) := by
  have hkl : k < l.length := by rw [h.len]; exact hk
  have hlen : (l.set k ⟨f, l[k].k⟩).length = m.length := by rw [List.length_set]; exact h.len
  refine ⟨hlen, fun j h1 h2 h3 => ?_, fun j h1 h2 h3 => ?_⟩
  · rw [List.getElem_set]
    split
    · rename_i e
      subst e
      exact ⟨by rw [h.rest k hk hkl (Nat.le_refl _)], hf⟩
    · exact h.done j h1 (by rw [h.len]; exact h1) (by omega)
  · rw [List.getElem_set, if_neg (by omega)]
    exact h.rest j h1 (by rw [h.len]; exact h1) (by omega)
theorem MeetTo.ok {g : Bxs} {m l : List Pt} (h : MeetTo g m.length m l) (hok : ∀ x ∈ m, PtOk x) : ∀ p ∈ l, PtOk p := by
  intro p hp
  obtain ⟨j, hj, rfl⟩ := List.getElem_of_mem hp
  have hjm : j < m.length := by rw [← h.len]; exact hj
  obtain ⟨h1, h2⟩ := h.done j hjm hj hjm
  exact ⟨h2.chk, by rw [h1]; exact (hok _ (List.getElem_mem hjm)).k⟩
theorem MeetTo.sem {g : Bxs} {m l : List Pt} (h : MeetTo g m.length m l) : l.map sem = (m.map sem).map fun x => ⟨fun t n => x.p t n && ptsOf g t n, x.k⟩ := by
  apply List.ext_getElem
  · rw [List.length_map, List.length_map, List.length_map, h.len]
  · intro j h1 h2
    rw [List.length_map] at h1
    rw [List.length_map, List.length_map] at h2
    obtain ⟨h3, h4⟩ := h.done j h2 h1 h2
    rw [List.getElem_map, List.getElem_map, List.getElem_map]
    unfold Go.Proofs.Ythnkmjjldggecaa.sem
    rw [h3]
    congr 1
    refine (ptsOf_rng l[j].f).ext (fun t n hr => by simp only; rw [ptsOf_out hr]; rfl) fun t n ht hn => ?_
    simp only
    rw [ptsOf_in ht hn, ptsOf_in ht hn, ptsOf_in ht hn]; exact h4.pts t n ht hn
set_option maxRecDepth 100000 in
set_option maxHeartbeats 4000000 in
theorem pnarrow_c (v fv : Value) (l : List Pt) (f : Bxs) (w : World) (hl : RowAt partE w v l) (hf : BxsAt w fv f) :
    Calls Try.prog 54 #[v, fv] w fun e w' => ∃ v', e = .returned (.tuple #[v', .int .i64 (pnE l f)]) ∧ PRes w' w.heap.size v' (pnE l f) (narrowS (l.map sem) (ptsOf f)) ∧ Below w.heap.size w w' := by
  obtain ⟨xa, ca, rfl⟩ := hl.shape
  obtain ⟨xf, cf, rfl⟩ := hf.shape
  have HA := Lib.hid hl
  have HF := Lib.hid hf
  have HFW0 := Lib.hid hf
  have HC := Lib.hid (ptsChk_c _ l w hl)
  have HE1 := Lib.hid (show ptsChk l ≠ 0 → pnE l f = ptsChk l from fun h => by unfold pnE; rw [if_pos h])
  have HE2 := Lib.hid (show ptsChk l = 0 → pnE l f = fChk f from fun h => by unfold pnE; rw [if_neg (by omega)])
  have HZA := Lib.hid (ptsChk_zero (l := l))
  clear hl hf
  go_enter Try.func54, Try.ntmps54
  go_wp2_with fail
  (with_reducible refine (HC.out).mono ?_)
  rintro e w1 ⟨rfl, hb1⟩
  replace HA := Lib.hid (HA.out.below hb1)
  replace HF := Lib.hid (HF.out.below hb1)
  have HBL := Lib.hid hb1
  clear hb1 HC
  by_cases h0 : ptsChk l = 0
  rotate_left
  · have H := Lib.hid (HE1.out h0)
    have H0 := Lib.hid h0
    have hne : decide (ptsChk l = 0) = false := by simpa using h0
    have hnb : (ptsChk l != 0) = true := bne_iff_ne.2 h0
    generalize ptsChk l = sc at *
    clear h0
    go_wp2
    go_ret2
    exact ⟨_, ret_ve H.out.symm, ⟨fun h => absurd (H.out.symm.trans h) H0.out, fun _ => rfl⟩, HBL.out⟩
  have HZ := Lib.hid (HZA.out.1 h0)
  have HE := Lib.hid (HE2.out h0)
  have HC := Lib.hid (fChk_c _ f w1 HF.out)
  rw [h0]
  clear h0 HE1 HE2 HZA
  go_wp2_with fail
  (with_reducible refine (HC.out).mono ?_)
  rintro e w2 ⟨rfl, hb1⟩
  replace HA := Lib.hid (HA.out.below hb1)
  replace HF := Lib.hid (HF.out.below hb1)
  replace HBL := Lib.hid (bstep HBL.out hb1)
  clear hb1 HC
  by_cases h0 : fChk f = 0
  rotate_left
  · have H0 := Lib.hid h0
    have hne : decide (fChk f = 0) = false := by simpa using h0
    have hnb : (fChk f != 0) = true := bne_iff_ne.2 h0
    generalize fChk f = sc at *
    clear h0
    go_wp2
    go_ret2
    exact ⟨_, ret_ve HE.out.symm, ⟨fun h => absurd (HE.out.symm.trans h) H0.out, fun _ => rfl⟩, HBL.out⟩
  have HF0 := Lib.hid h0
  rw [h0] at HE ⊢
  clear h0
  have hla := HZ.out.1
  have HOK := Lib.hid HZ.out.2
  have HCP := Lib.hid (pcopied_c _ l w2 HA.out HOK.out (by omega))
  clear HZ HA
  go_wp2_with fail
  (with_reducible refine (HCP.out).mono ?_)
  rintro e w3 ⟨ov, rfl, ho, hb3⟩
  have HO := Lib.hid (ho.mono HBL.out.size)
  obtain ⟨pa, pc, rfl⟩ := ho.shape
  have HB3 := Lib.hid (bstep HBL.out hb3)
  clear ho hb3 HCP HBL HF
  obtain ⟨w4, hw4⟩ : ∃ w4, w4 = w3 := ⟨_, rfl⟩
  rw [← hw4] at HO HB3 ⊢
  clear hw4 w3
  go_wp2
  go_loopw [24] (fun i wr => ∃ q : Nat, q ≤ l.length ∧ i = .int .i64 q ∧ (∃ l1, POwn wr w.heap.size (.slice pa l.length pc) l1 ∧ MeetTo f q l l1) ∧ Below w.heap.size w wr) (fun i _ => l.length - (intOf i).toNat)
  case atStart => exact ⟨0, Nat.zero_le _, rfl, ⟨l, HO.out, MeetTo.zero f l⟩, HB3.out⟩
  case round =>
    obtain ⟨q, hq, rfl, ⟨l1, ho1, hp1⟩, hbl⟩ := hrel
    have HO1 := Lib.hid ho1
    have HP1 := Lib.hid hp1
    have HBL := Lib.hid hbl
    have HFR := Lib.hid (HFW0.out.below hbl)
    clear ho1 hp1 hbl HO HB3
    by_cases hql : q < l.length
    · have hq1 : q < l1.length := by rw [HP1.out.len]; exact hql
      have hrest := HP1.out.rest q hql hq1 (Nat.le_refl _)
      obtain ⟨g, f1, hpg, hcell, hfo⟩ := HO1.out.cellF q hq1
      subst hpg
      have hfz : fChk l1[q].f = 0 := by rw [hrest]; exact (HOK.out _ (List.getElem_mem hql)).f
      have HPC := Lib.hid (meetf_c f1 _ l1[q].f f wr (hfo.at_ok hfz) HFR.out)
      have ht0 : fTwo l1[q].f f = 0 := by unfold fTwo; rw [if_pos hfz, HF0.out]
      rw [ht0] at HPC
      obtain ⟨fa, fc, hf1⟩ := hfo.shape
      subst hf1
      have HPT := Lib.hid (fun (f2 : Bxs) (h : FGood f2 (fun t n => inF l1[q].f t n && inF f t n)) => HP1.out.step hql (f := f2) (by rw [hrest] at h; exact h))
      have hqm : decide ((q : Int) < (l.length : Int)) = true := by simp; omega
      clear hfo hrest hfz ht0
      go_wp2_with fail
      (with_reducible refine (HPC.out).mono ?_)
      rintro e w5 ⟨f2, rfl, hfout, hb5⟩
      obtain ⟨fl, hf2, hg2⟩ := hfout.1 rfl
      have HF2 := Lib.hid (BxsOwn.mono hf2 HBL.out.size)
      obtain ⟨fa2, fc2, hf2v⟩ := hf2.shape
      subst hf2v
      obtain ⟨hset, cs, hgb, hbase⟩ := (HO1.out.below hb5).setF q hq1 (fs := fl) HF2.out
      have HSET := Lib.hid hset
      have HPL := Lib.hid (HPT.out fl hg2)
      have HBF := Lib.hid ((bstep HBL.out hb5).setCell (p := ⟨g, q * 3, none⟩) hbase (.slice fa2 fl.length fc2))
      have c5 := ckeep hb5 hcell
      have ff5 := free_of_block (j := q * 3) hgb
      have hgl := hlt_of hgb
      clear hcell hb5 hf2 hg2 HPC hset hgb HPT hfout
      go_wp2
      go_roundw
      case rel => exact ⟨q + 1, by omega, by go_num, ⟨_, HSET.out, HPL.out⟩, HBF.out⟩
      case measure => simp [intOf] <;> omega
    · obtain rfl : q = l.length := by omega
      have hat := HO1.out.at_ (HP1.out.ok HOK.out) (by rw [HP1.out.len]; omega)
      have HFW := Lib.hid (few_c _ l1 wr hat (HP1.out.ok HOK.out) (by rw [HP1.out.len]; omega))
      have HSM := Lib.hid (show fewS (l1.map sem) = narrowS (l.map sem) (ptsOf f) by rw [HP1.out.sem]; rfl)
      rw [HSM.out] at HFW
      clear hat HO1 HP1 HOK HFR HSM HFW0
      go_wp2_with fail
      (with_reducible refine (HFW.out).mono ?_)
      rintro e w5 ⟨v5, rfl, h5, hb5⟩
      have H5 := Lib.hid (h5.mono HBL.out.size)
      have HB5 := Lib.hid (bstep HBL.out hb5)
      obtain ⟨x5, c5, hv5⟩ := h5.shape
      subst hv5
      clear h5 hb5 HFW
      go_wp2
      go_ret2
      exact ⟨_, ret_ve HE.out.symm, ⟨fun _ => H5.out, fun h => absurd HE.out h⟩, HB5.out⟩
end Go.Proofs.Ythnkmjjldggecaa
