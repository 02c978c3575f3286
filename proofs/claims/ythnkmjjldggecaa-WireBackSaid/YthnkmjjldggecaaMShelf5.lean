/- What shelf.Copied does. What slices.BinarySearchFunc does to versions. Written by a small program (gen/shelf6.py). -/
import Derived.Test.YthnkmjjldggecaaMShelf1
import Derived.Test.YthnkmjjldggecaaMClaims
import Derived.Deep.QuietTactic
import Derived.BigQuiet
import Derived.Test.YthnkmjjldggecaaKnow10
import Derived.Test.YthnkmjjldggecaaMElt
import Derived.Test.YthnkmjjldggecaaDots2
import Derived.WalkArith
import Derived.Laws.Shifts
namespace Go.Proofs.Ythnkmjjldggecaa
open Go.RowKit
set_option maxRecDepth 100000 in
theorem VerTy.info : (Try.prog.info? 109).map (fun i => (i.zero, i.size, i.bytes)) = some (some (.agg (verC ⟨ByteArray.empty, 0, 0, 0, 0, 0, ⟨[], []⟩⟩ (.slice none 0 0) (.slice none 0 0))), 8, 104) := by kernel_rfl
/-- Versions whose pasts are the call's own. -/
def VE (w : World) (base : Nat) : List Ver → List (List Value) → Prop
  | [], [] => True
  | v :: l, c :: cs => (∃ (a : Option Addr) (n d : Nat) (b : Option Addr) (m e : Nat), c = (verC v (.slice a n d) (.slice b m e)).toList ∧ KnOwn w base (.slice a n d) (.slice b m e) v.past) ∧ VE w base l cs
  | _, _ => False
theorem VE.map {w w' : World} {base : Nat} (h : ∀ u x k, KnOwn w base u x k → KnOwn w' base u x k) : ∀ {l : List Ver} {cs : List (List Value)}, VE w base l cs → VE w' base l cs
  | [], [], _ => trivial
  | _ :: _, _ :: _, ⟨⟨a, n, d, b, m, e, h1, h2⟩, h3⟩ => ⟨⟨a, n, d, b, m, e, h1, h _ _ _ h2⟩, VE.map h h3⟩
  | [], _ :: _, h3 => h3.elim
  | _ :: _, [], h3 => h3.elim
theorem VE.snoc {w : World} {base : Nat} : ∀ {l : List Ver} {cs : List (List Value)} {v : Ver} {c : List Value}, VE w base l cs → VE w base [v] [c] → VE w base (l ++ [v]) (cs ++ [c])
  | [], [], _, _, _, k => k
  | _ :: _, _ :: _, _, _, h, k => ⟨h.1, VE.snoc h.2 k⟩
  | [], _ :: _, _, _, h, _ => h.elim
  | _ :: _, [], _, _, h, _ => h.elim
theorem VE.els {w : World} {base : Nat} : ∀ {l : List Ver} {cs : List (List Value)}, VE w base l cs → (∀ v ∈ l, v.past.vec.length ≤ 5 ∧ v.past.more.length ≤ 60) → Els verE w l cs
  | [], [], _, _ => trivial
  | v :: _, _ :: _, ⟨⟨a, n, d, b, m, e, h1, h2⟩, h3⟩, hb => ⟨⟨_, _, h1, h2.at_ (hb v (by simp)).1 (by have := (hb v (by simp)).2; omega)⟩, VE.els h3 fun x hx => hb x (by simp [hx])⟩
  | [], _ :: _, h, _ => h.elim
  | _ :: _, [], h, _ => h.elim
/-- A shelf of the call's own. -/
def VOwn (w : World) (base : Nat) (vv : Value) (l : List Ver) : Prop := ∃ css, VE w base l css ∧ w.ownsRow base 109 8 vv l.length css.flatten
theorem VOwn.below {w w' : World} {base : Nat} {vv : Value} {l : List Ver} (h : VOwn w base vv l) (hb : Below w.heap.size w w') : VOwn w' base vv l := by
  obtain ⟨css, h1, h2⟩ := h; exact ⟨css, h1.map fun _ _ _ h => h.below hb, owns_below h2 hb⟩
theorem KnOwn.set1 {w : World} {base g j : Nat} {u x y : Value} {k : Kn} {cs : Array Value} (h : KnOwn w base u x k) (hg : w.heap[g]? = some (Obj.cells cs 109 (0, 0))) : KnOwn (w.setCell ⟨g, j, none⟩ y) base u x k :=
  ⟨own_set h.vec hg (by decide), own_set h.more hg (by decide)⟩
/-- A write into a block of a version that is not the row's own. -/
theorem VOwn.set1 {w : World} {base g j : Nat} {vv y : Value} {l : List Ver} {cs : Array Value} (h : VOwn w base vv l) (hg : w.heap[g]? = some (Obj.cells cs 109 (0, 0))) (hne : vv.ownBlock ≠ some g) : VOwn (w.setCell ⟨g, j, none⟩ y) base vv l := by
  obtain ⟨css, h1, h2⟩ := h
  refine ⟨css, h1.map fun _ _ _ h => h.set1 hg, ?_⟩
  exact h2.kept (grown_set _ _ _ _) (.inr hne)
theorem VE.flat {w : World} {base : Nat} : ∀ {l : List Ver} {cs : List (List Value)}, VE w base l cs → cs.flatten.length = l.length * 8
  | [], [], _ => by simp
  | v :: l, c :: cs, ⟨⟨a, n, d, b, m, e, h1, h2⟩, h3⟩ => by
    have := VE.flat h3
    rw [List.flatten_cons, List.length_append, this, h1, List.length_cons]
    simp [verC]; omega
  | [], _ :: _, h => h.elim
  | _ :: _, [], h => h.elim
theorem VOwn.at_ {w : World} {base : Nat} {vv : Value} {l : List Ver} (h : VOwn w base vv l) (hb : ∀ v ∈ l, v.past.vec.length ≤ 5 ∧ v.past.more.length ≤ 60) (hl : l.length ≤ 1000) : RowAt verE w vv l := by
  obtain ⟨css, h1, h2⟩ := h
  exact ⟨css, h1.els hb, CellsAt.of_owns h2 (by omega)⟩
theorem own_nilV (w : World) (base : Nat) : VOwn w base (.slice none 0 0) [] := ⟨[], trivial, World.ownsRow_nil _ _ _ _⟩
end Go.Proofs.Ythnkmjjldggecaa
namespace Go.Proofs.Ythnkmjjldggecaa
open Go.RowKit
/-- Where a version stands. -/
structure VFound (l : List Ver) (t : Ver) (i : Nat) (b : Bool) : Prop where
  le : i ≤ l.length
  lo : ∀ q (h : q < l.length), q < i → verCmp l[q] t < 0
  hi : ∀ q (h : q < l.length), i ≤ q → 0 ≤ verCmp l[q] t
  found : b = true ↔ ∃ h : i < l.length, verCmp l[i] t = 0
end Go.Proofs.Ythnkmjjldggecaa
