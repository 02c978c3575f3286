/- What a reader of bytes does, put together for wire.Unpack: each thing that it reads, its steps named. What wire.Unpack answers. No walk here. -/
import Derived.Test.YtboakoipdfmpcaaGreatWireKeep
import Derived.Test.YtboakoipdfmpcaaGreatWire1
import Derived.Test.YtboakoipdfmpcaaGreatWire3
import Derived.Test.YtboakoipdfmpcaaGreatWireSum
import Derived.BigQuiet
import Derived.Lib.EndianBits
namespace Go.Proofs.YtboakoipdfmpcaaGreat
open Go.RowKit
theorem VOwn.push {w w' : World} {base n d m e : Nat} {a b : Option Addr} {v v' : Value} {l : List Ver} {css : List (List Value)} {x : Ver} (h1 : VE w base l css) (h2 : w.ownsRow base 75 8 v l.length css.flatten) (hk : KnOwn w base (.slice a n d) (.slice b m e) x.past)
    (ho : w'.ownsRow base 75 8 v' (l.length + 1) (css.flatten ++ (verC x (.slice a n d) (.slice b m e)).toList)) (hg : w.grownBy w' v.ownBlock) : VOwn w' base v' (l ++ [x]) := by
  have hK : ∀ u x (k : Kn), KnOwn w base u x k → KnOwn w' base u x k := fun u x k h => ⟨own_kept2 h.vec h2 (by decide) hg, own_kept2 h.more h2 (by decide) hg⟩
  refine ⟨css ++ [(verC x (.slice a n d) (.slice b m e)).toList], VE.snoc (h1.map fun u x k h => hK _ _ _ h) ⟨⟨_, _, _, _, _, _, rfl, hK _ _ _ hk⟩, trivial⟩, ?_⟩
  rw [List.flatten_append, List.length_append]
  simpa using ho
end Go.Proofs.YtboakoipdfmpcaaGreat
namespace Go.Proofs.YtboakoipdfmpcaaGreat
open Go.RowKit
theorem TKeep.trans {T : Nat → Bool} {a b c : World} (h : TKeep T a b) (k : TKeep T b c) : TKeep T a c := ⟨Nat.le_trans h.size k.size, fun _ _ _ hj ht => k.blk _ _ _ (h.blk _ _ _ hj ht) ht⟩
theorem TKeep.set5 {T : Nat → Bool} {w : World} {g : Nat} {cs : Array Value} {t : TypeId} {x0 x1 x2 x3 x4 : Value} (hg : w.heap[g]? = some (Obj.cells cs t (0, 0))) (ht : T t = false) :
    TKeep T w (((((w.setCell ⟨g, 0, none⟩ x0).setCell ⟨g, 1, none⟩ x1).setCell ⟨g, 2, none⟩ x2).setCell ⟨g, 3, none⟩ x3).setCell ⟨g, 4, none⟩ x4) := by
  have h1 := heap_set_same (j := 0) (v := x0) hg
  have h2 := heap_set_same (j := 1) (v := x1) h1
  have h3 := heap_set_same (j := 2) (v := x2) h2
  have h4 := heap_set_same (j := 3) (v := x3) h3
  exact ((((TKeep.of_set hg ht).trans (TKeep.of_set h1 ht)).trans (TKeep.of_set h2 ht)).trans (TKeep.of_set h3 ht)).trans (TKeep.of_set h4 ht)
end Go.Proofs.YtboakoipdfmpcaaGreat
