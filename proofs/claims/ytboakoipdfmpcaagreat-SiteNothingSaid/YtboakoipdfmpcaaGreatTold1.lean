/- Versions as sites would make them: what memory holds while they are made. -/
import Derived.Test.YtboakoipdfmpcaaGreatMShelfP
import Derived.Test.YtboakoipdfmpcaaGreatShelfOwn0
import Derived.Test.YtboakoipdfmpcaaGreatRowOps
import Derived.Test.YtboakoipdfmpcaaGreatMShelf1
import Derived.Test.YtboakoipdfmpcaaGreatMElt
import Derived.Test.YtboakoipdfmpcaaGreatMPure
import Derived.Test.YtboakoipdfmpcaaGreatMKnow1
import Derived.Test.YtboakoipdfmpcaaGreatChecked
import Derived.Test.YtboakoipdfmpcaaGreatMClone
import Derived.Laws.Bits64b
import Derived.Test.YtboakoipdfmpcaaGreatMClaims
import Derived.Deep.QuietTactic
import Derived.BigQuiet
import Derived.Test.YtboakoipdfmpcaaGreatMKnow5
import Derived.Test.YtboakoipdfmpcaaGreatMDots
namespace Go.Proofs.YtboakoipdfmpcaaGreat
open Go.RowKit
/-- A write into a block of another type than a shelf's rows. -/
theorem VOwn.other {w w' : World} {base g : Nat} {vv : Value} {l : List Ver} {cs : Array Value} {t : TypeId} {r : Nat × Nat} (h : VOwn w base vv l) (hb : w.grownBy w' (some g)) (hg : w.heap[g]? = some (Obj.cells cs t r)) (h1 : t ≠ 75) (h2 : t ≠ 3) (h3 : t ≠ 41) : VOwn w' base vv l := by
  obtain ⟨css, k1, k2⟩ := h
  exact ⟨css, k1.map fun _ _ _ h => ⟨h.vec.kept hb (.inr (own_off h.vec hg h2)), h.more.kept hb (.inr (own_off h.more hg h3))⟩, k2.kept hb (.inr (own_off k2 hg h1))⟩
end Go.Proofs.YtboakoipdfmpcaaGreat
