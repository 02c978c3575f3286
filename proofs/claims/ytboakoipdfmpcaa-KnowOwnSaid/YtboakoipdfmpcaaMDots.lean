/- The reference's Form: the form of a set of dots. Written by a small program (gen/dots2.py). The laws' sets of dots: what reedkeep.set does. Written by a small program (gen/dots3.py). -/
import Derived.Test.YtboakoipdfmpcaaMElt
import Derived.Test.YtboakoipdfmpcaaMPure
import Derived.Test.YtboakoipdfmpcaaMKnow1
import Derived.Test.YtboakoipdfmpcaaChecked
import Derived.Test.YtboakoipdfmpcaaMClone
import Derived.Laws.Bits64b
import Derived.Test.YtboakoipdfmpcaaMClaims
import Derived.Deep.QuietTactic
import Derived.BigQuiet
import Derived.Test.YtboakoipdfmpcaaMKnow5
import Derived.Test.YtboakoipdfmpcaaMKnow7
namespace Go.Proofs.Ytboakoipdfmpcaa
open Go.RowKit
theorem own_kept2 {w w' : World} {b1 b2 e1 e2 s1 s2 n k : Nat} {u v : Value} {xs ys : List Value} (h1 : w.ownsRow b1 e1 s1 u n xs) (h2 : w.ownsRow b2 e2 s2 v k ys) (hne : e1 ≠ e2) (hg : w.grownBy w' v.ownBlock) : w'.ownsRow b1 e1 s1 u n xs := by
  rcases h1.2 with ⟨rfl, -⟩ | ⟨g, cap, cur, rfl, -, hg1, -⟩
  · exact h1.kept hg (.inl rfl)
  · exact h1.kept hg (.inr (own_off h2 hg1 hne).symm)
section
variable {m : Nat → Nat} {w wr : World} {uv uw : Value} {vs : List Int} {ds : Dots}
end
end Go.Proofs.Ytboakoipdfmpcaa
namespace Go.Proofs.Ytboakoipdfmpcaa
open Go.RowKit
theorem setRow_other {w : World} {g k : Nat} {cs : Array Value} (h : g ≠ k) : (w.setRow g cs).heap[k]? = w.heap[k]? := by
  unfold World.setRow
  simp only
  rw [Array.getElem?_modify, if_neg h]
end Go.Proofs.Ytboakoipdfmpcaa
