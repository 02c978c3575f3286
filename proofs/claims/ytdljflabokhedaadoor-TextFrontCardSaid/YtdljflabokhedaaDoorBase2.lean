/- More on worlds that grow: cells that may be written stay so. No program in sight. -/
import Derived.Test.YtdljflabokhedaaDoorBase
import Derived.WalkSmall
import Derived.Laws.OwnMore
import Derived.Laws.MakeOwn
import Derived.Laws.Tables
import Derived.Laws.Rows
import Derived.Laws.CopyOwn
namespace Go.Proofs.YtdljflabokhedaaDoor
open Go.RowKit
theorem cell_of_block {W:World} {g j:Nat} {cs:Array Value} {t:TypeId} {v:Value} (h:W.heap[g]? =some (.cells cs t (0,0))) (hv:cs[j]? =some v):W.cell? ⟨g,j,none⟩=some v:=by
 simp[World.cell?,h,hv]
theorem free_of_block {W:World} {g j:Nat} {cs:Array Value} {t:TypeId} (h:W.heap[g]? =some (.cells cs t (0,0))):W.frozen? ⟨g,j,none⟩=false:=by
 simp[World.frozen?,h]
end Go.Proofs.YtdljflabokhedaaDoor
