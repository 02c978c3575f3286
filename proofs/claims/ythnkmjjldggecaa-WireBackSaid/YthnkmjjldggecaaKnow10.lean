/- What know.Copied does. Written by a small program (gen/know10.py). -/
import Derived.Test.YthnkmjjldggecaaKnow6
namespace Go.Proofs.Ythnkmjjldggecaa
open Go.RowKit
def CpI (w : World) (base : Nat) (v : Value) (l : List Int) : Prop := ∃ (a : Option Addr) (c : Nat), v = .slice a l.length c ∧ w.ownsRow base 3 1 (.slice a l.length c) l.length (intsC l)
def CpD (w : World) (base : Nat) (v : Value) (l : Dots) : Prop := ∃ (a : Option Addr) (c : Nat), v = .slice a l.length c ∧ w.ownsRow base 92 2 (.slice a l.length c) l.length (spansCells l)
def CpK (w : World) (base : Nat) (v : Value) (k : Kn) : Prop := ∃ (a : Option Addr) (c : Nat) (b : Option Addr) (d : Nat), v = .agg #[.slice a k.vec.length c, .slice b k.more.length d] ∧ KnOwn w base (.slice a k.vec.length c) (.slice b k.more.length d) k
theorem CpI.below {w w' : World} {base : Nat} {v : Value} {l : List Int} (h : CpI w base v l) (hb : Below w.heap.size w w') : CpI w' base v l := by
  obtain ⟨a, c, h1, h2⟩ := h; exact ⟨a, c, h1, owns_below h2 hb⟩
theorem CpD.below {w w' : World} {base : Nat} {v : Value} {l : Dots} (h : CpD w base v l) (hb : Below w.heap.size w w') : CpD w' base v l := by
  obtain ⟨a, c, h1, h2⟩ := h; exact ⟨a, c, h1, owns_below h2 hb⟩
theorem CpK.below {w w' : World} {base : Nat} {v : Value} {k : Kn} (h : CpK w base v k) (hb : Below w.heap.size w w') : CpK w' base v k := by
  obtain ⟨a, c, b, d, h1, h2⟩ := h; exact ⟨a, c, b, d, h1, h2.below hb⟩
end Go.Proofs.Ythnkmjjldggecaa
