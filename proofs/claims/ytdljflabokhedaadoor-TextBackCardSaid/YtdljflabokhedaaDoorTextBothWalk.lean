/- The walk of reedkeep.TextBoth. Written by a small program (gen/textboth.py). -/
import Derived.Test.YtdljflabokhedaaDoorText5
import Derived.Test.YtdljflabokhedaaDoorText9
import Derived.Test.YtdljflabokhedaaDoorForm4
import Derived.Test.YtdljflabokhedaaDoorMFilter4
import Derived.LoopN
namespace Go.Proofs.YtdljflabokhedaaDoor
open Go.RowKit
set_option maxRecDepth 100000 in
theorem formF (v:Value) (l:Nds) (w:World) (hs:NdsAt w v l) (hz:formChk l=0):
  Calls Tryd.prog 7 #[v] w fun e w'=> ∃u,e= .returned (.tuple #[u, .int .i64 0])∧FV w' u (fun t n=>formVal l t n)∧Below w.heap.size w w':=by
 refine(formFilter_c v l w hs).mono ?_
 rintro e w' ⟨u,rfl,h1, -,hb⟩
 exact⟨u,by rw[hz],(h1 hz).fv,hb⟩
theorem readL_chk {s:ByteArray} (h:readE s=0):formChk (readL s)=0:=by
 obtain⟨-,l, -,h1,h2⟩:=readE_zero h
 rw[h2];exact h1
end Go.Proofs.YtdljflabokhedaaDoor
