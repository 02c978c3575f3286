/- The laws' sets of dots: what reedkeep.set does. Written by a small program (gen/dots3.py). -/
import Derived.Test.YthnkmjjldggecaaBase3
import Derived.Test.YthnkmjjldggecaaMPure
import Derived.Test.YthnkmjjldggecaaMixed
import Derived.Test.YthnkmjjldggecaaKnow1
import Derived.WalkArith
import Derived.Laws.Shifts
import Derived.Test.YthnkmjjldggecaaChecked
import Derived.Test.YthnkmjjldggecaaBase2
import Derived.Laws.Bits64b
import Derived.Test.YthnkmjjldggecaaMClaims
import Derived.Deep.QuietTactic
import Derived.BigQuiet
import Derived.Test.YthnkmjjldggecaaKnowSort
import Derived.Lib.AppendZeros
import Derived.Test.YthnkmjjldggecaaKnow7
namespace Go.Proofs.Ythnkmjjldggecaa
open Go.RowKit
theorem setRow_other {w : World} {g k : Nat} {cs : Array Value} (h : g ≠ k) : (w.setRow g cs).heap[k]? = w.heap[k]? := by
  unfold World.setRow
  simp only
  rw [Array.getElem?_modify, if_neg h]
end Go.Proofs.Ythnkmjjldggecaa
