/- Parts of the call's own in memory. -/
import Derived.Test.YthnkmjjldggecaaPart1
import Derived.Test.YthnkmjjldggecaaMElt
import Derived.Test.YthnkmjjldggecaaDots2
namespace Go.Proofs.Ythnkmjjldggecaa
open Go.RowKit
abbrev FOwn (w : World) (base : Nat) (v : Value) (l : Bxs) : Prop := BxsOwn w base 125 50 v l
/-- A row of another type is left. -/
theorem FOwn.other {w w' : World} {base b2 e2 s2 k : Nat} {v f : Value} {l : Bxs} {ys : List Value} (h : FOwn w base f l) (h2 : w.ownsRow b2 e2 s2 v k ys) (n1 : 125 ≠ e2) (n2 : 50 ≠ e2) (hg : w.grownBy w' v.ownBlock) : FOwn w' base f l := by
  obtain ⟨us, h3, h4, h5⟩ := h
  exact ⟨us, h3, own_kept2 h4 h2 n1 hg, fun i hi hi' => own_kept2 (h5 i hi hi') h2 n2 hg⟩
theorem FOwn.set {w : World} {base g j : Nat} {f u : Value} {l : Bxs} {cs : Array Value} {t : TypeId} {r : Nat × Nat} (h : FOwn w base f l) (hg : w.heap[g]? = some (Obj.cells cs t r)) (n1 : t ≠ 125) (n2 : t ≠ 50) : FOwn (w.setCell ⟨g, j, none⟩ u) base f l := by
  obtain ⟨us, h3, h4, h5⟩ := h
  exact ⟨us, h3, own_set h4 hg n1, fun i hi hi' => own_set (h5 i hi hi') hg n2⟩
theorem FOwn.mono {w : World} {base base' : Nat} {f : Value} {l : Bxs} (h : FOwn w base f l) (hb : base' ≤ base) : FOwn w base' f l := BxsOwn.mono h hb
theorem FOwn.at_ok {w : World} {base : Nat} {f : Value} {l : Bxs} (h : FOwn w base f l) (hc : fChk l = 0) : BxsAt w f l := by
  obtain ⟨h1, h2⟩ := fChk_zero.1 hc
  exact h.at_ (by omega) h2
/-- Parts whose filters and sets of dots are the call's own. -/
def PE (w : World) (base : Nat) : List Pt → List (List Value) → Prop
  | [], [] => True
  | p :: l, c :: cs => (∃ f u x : Value, c = [f, u, x] ∧ FOwn w base f p.f ∧ KnOwn w base u x p.k) ∧ PE w base l cs
  | _, _ => False
theorem PE.map {w w' : World} {base base' : Nat} (h : ∀ f u x (p : Pt), FOwn w base f p.f → KnOwn w base u x p.k → FOwn w' base' f p.f ∧ KnOwn w' base' u x p.k) : ∀ {l : List Pt} {cs : List (List Value)}, PE w base l cs → PE w' base' l cs
  | [], [], _ => trivial
  | p :: _, _ :: _, ⟨⟨f, u, x, h1, h2, h3⟩, h4⟩ => ⟨⟨f, u, x, h1, h f u x p h2 h3⟩, PE.map h h4⟩
  | [], _ :: _, h3 => h3.elim
  | _ :: _, [], h3 => h3.elim
theorem PE.snoc {w : World} {base : Nat} : ∀ {l : List Pt} {cs : List (List Value)} {p : Pt} {c : List Value}, PE w base l cs → PE w base [p] [c] → PE w base (l ++ [p]) (cs ++ [c])
  | [], [], _, _, _, k => k
  | _ :: _, _ :: _, _, _, h, k => ⟨h.1, PE.snoc h.2 k⟩
  | [], _ :: _, _, _, h, _ => h.elim
  | _ :: _, [], _, _, h, _ => h.elim
theorem PE.len {w : World} {base : Nat} : ∀ {l : List Pt} {cs : List (List Value)}, PE w base l cs → cs.length = l.length
  | [], [], _ => rfl
  | _ :: _, _ :: _, h => by simp [PE.len h.2]
  | [], _ :: _, h => h.elim
  | _ :: _, [], h => h.elim
theorem PE.els {w : World} {base : Nat} : ∀ {l : List Pt} {cs : List (List Value)}, PE w base l cs → (∀ p ∈ l, PtOk p) → Els partE w l cs
  | [], [], _, _ => trivial
  | p :: _, _ :: _, ⟨⟨f, u, x, h1, h2, h3⟩, h4⟩, hb => ⟨⟨f, u, x, h1, h2.at_ok (hb p (by simp)).f, h3.at_ ((knChk_zero.1 (hb p (by simp)).k).1.len) (by have := (knChk_zero.1 (hb p (by simp)).k).2; omega)⟩, PE.els h4 fun x hx => hb x (by simp [hx])⟩
  | [], _ :: _, h, _ => h.elim
  | _ :: _, [], h, _ => h.elim
theorem PE.get {w : World} {base : Nat} : ∀ {l : List Pt} {cs : List (List Value)} (_ : PE w base l cs) (i : Nat) (hi : i < l.length), ∃ f u x : Value, cs[i]? = some [f, u, x] ∧ FOwn w base f l[i].f ∧ KnOwn w base u x l[i].k
  | [], _, _, i, hi => by simp at hi
  | _ :: _, _ :: _, ⟨⟨f, u, x, h1, h2, h3⟩, _⟩, 0, _ => ⟨f, u, x, by simp [h1], h2, h3⟩
  | _ :: _, _ :: _, ⟨_, h4⟩, i + 1, hi => by
    obtain ⟨f, u, x, h1, h2, h3⟩ := PE.get h4 i (by simpa using hi)
    exact ⟨f, u, x, by simpa using h1, h2, h3⟩
  | _ :: _, [], h, _, _ => h.elim
theorem PE.set {w : World} {base : Nat} : ∀ {l : List Pt} {cs : List (List Value)} (_ : PE w base l cs) (i : Nat) (p : Pt) (f u x : Value), FOwn w base f p.f → KnOwn w base u x p.k → PE w base (l.set i p) (cs.set i [f, u, x])
  | [], [], _, _, _, _, _, _, _, _ => trivial
  | _ :: _, _ :: _, h, 0, _, f, u, x, k1, k2 => ⟨⟨f, u, x, rfl, k1, k2⟩, h.2⟩
  | _ :: _, _ :: _, h, i + 1, p, f, u, x, k1, k2 => ⟨h.1, PE.set h.2 i p f u x k1 k2⟩
  | [], _ :: _, h, _, _, _, _, _, _, _ => h.elim
  | _ :: _, [], h, _, _, _, _, _, _, _ => h.elim
/-- Parts of the call's own. -/
def POwn (w : World) (base : Nat) (v : Value) (l : List Pt) : Prop := ∃ css, PE w base l css ∧ w.ownsRow base 83 3 v l.length css.flatten
theorem POwn.nil (w : World) (base : Nat) : POwn w base (.slice none 0 0) [] := ⟨[], trivial, World.ownsRow_nil _ _ _ _⟩
theorem POwn.below {w w' : World} {base : Nat} {v : Value} {l : List Pt} (h : POwn w base v l) (hb : Below w.heap.size w w') : POwn w' base v l := by
  obtain ⟨css, h1, h2⟩ := h; exact ⟨css, h1.map fun _ _ _ _ h k => ⟨h.below hb, k.below hb⟩, owns_below h2 hb⟩
theorem POwn.mono {w : World} {base base' : Nat} {v : Value} {l : List Pt} (h : POwn w base v l) (hb : base' ≤ base) : POwn w base' v l := by
  obtain ⟨css, h1, h2⟩ := h; exact ⟨css, h1.map fun _ _ _ _ h k => ⟨h.mono hb, k.mono hb⟩, owns_mono h2 hb⟩
theorem POwn.shape {w : World} {base : Nat} {v : Value} {l : List Pt} (h : POwn w base v l) : ∃ a c, v = .slice a l.length c := by
  obtain ⟨css, -, h2⟩ := h; exact owns_slice h2
theorem POwn.at_ {w : World} {base : Nat} {v : Value} {l : List Pt} (h : POwn w base v l) (hok : ∀ p ∈ l, PtOk p) (hl : l.length ≤ 1000) : RowAt partE w v l := by
  obtain ⟨css, h1, h2⟩ := h
  exact ⟨css, h1.els hok, CellsAt.of_owns h2 (by omega)⟩
/-- An append of one part of the call's own. -/
theorem POwn.push {w w' : World} {base : Nat} {v v' f u x : Value} {l : List Pt} {css : List (List Value)} {p : Pt} (h1 : PE w base l css) (h2 : w.ownsRow base 83 3 v l.length css.flatten) (hf : FOwn w base f p.f) (hk : KnOwn w base u x p.k)
    (ho : w'.ownsRow base 83 3 v' (l.length + 1) (css.flatten ++ [f, u, x])) (hg : w.grownBy w' v.ownBlock) : POwn w' base v' (l ++ [p]) := by
  have hF : ∀ f (l : Bxs), FOwn w base f l → FOwn w' base f l := fun f l h => h.other h2 (by decide) (by decide) hg
  have hK : ∀ u x (k : Kn), KnOwn w base u x k → KnOwn w' base u x k := fun u x k h => ⟨own_kept2 h.vec h2 (by decide) hg, own_kept2 h.more h2 (by decide) hg⟩
  refine ⟨css ++ [[f, u, x]], PE.snoc (h1.map fun f u x p h k => ⟨hF _ _ h, hK _ _ _ k⟩) ⟨⟨f, u, x, rfl, hF _ _ hf, hK _ _ _ hk⟩, trivial⟩, ?_⟩
  rw [List.flatten_append, List.length_append]
  simpa using ho
theorem PE.lens {w : World} {base : Nat} : ∀ {l : List Pt} {cs : List (List Value)}, PE w base l cs → ∀ c ∈ cs, c.length = 3
  | [], [], _ => by simp
  | _ :: _, _ :: _, ⟨⟨f, u, x, h1, _⟩, h4⟩ => by
    intro d hd
    rcases List.mem_cons.1 hd with rfl | hd
    · rw [h1]; rfl
    · exact PE.lens h4 d hd
  | [], _ :: _, h => h.elim
  | _ :: _, [], h => h.elim
end Go.Proofs.Ythnkmjjldggecaa
